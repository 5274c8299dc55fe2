/- Proved: the law BetweenImplies of package between returns true at every input, and changes none; no condition. -/
import Derived.Test.YtlokeimfmbgigaaZ7
import Derived.BigQuiet
import Derived.Deep.QuietTactic
import Derived.Deep.RegionHeld3
import Derived.Test.YtlokeimfmbgigaaRows
import Derived.WalkKit
import Derived.ProofKit
import Derived.OpenShut
import Derived.ShutString
import Derived.ChangeOld
import Derived.Below
set_option linter.unusedVariables false
set_option linter.unusedSimpArgs false
set_option linter.unusedVariables false
set_option linter.unusedSectionVars false
namespace Go.Proofs.Ytlokeimfmbgigaa.Pl
open Go.RowKit Go.Proofs.YtlokeimfmbgigaaW.PrintWords
open Go.Proofs.Ytlokeimfmbgigaa.Ref Go.Proofs.Ytlokeimfmbgigaa.Bk
theorem bds_snoc (l : List S35) (v : S35) : bds (l ++ [v]) = bds l ++ [(v.f0.toNat, v.f1.toNat, v.f2)] := by simp [bds]
theorem valid_snoc {n : Nat} {l : List S35} {v : S35} (hv : validB n l = true) (hl : l.length ≤ 59) (hb : boundB n v = true) : validB n (l ++ [v]) = true := by
  unfold validB at hv ⊢
  simp only [Bool.and_eq_true, decide_eq_true_eq, List.all_append, List.all_cons, List.all_nil, Bool.and_true, List.length_append, List.length_cons, List.length_nil] at hv ⊢
  exact ⟨⟨hv.1.1, by omega⟩, hv.2, hb⟩
theorem bound_of {n : Nat} {v : S35} (h0 : 0 ≤ v.f0 ∧ v.f0 < n) (h1 : 0 ≤ v.f1 ∧ v.f1 < n) (h2 : -1000000000 ≤ v.f2 ∧ v.f2 ≤ 1000000000) : boundB n v = true := by
  unfold boundB
  simp only [Bool.and_eq_true, decide_eq_true_eq]
  omega
theorem bound_out {n : Nat} {v : S35} (h : boundB n v = true) : (0 ≤ v.f0 ∧ v.f0 < n) ∧ (0 ≤ v.f1 ∧ v.f1 < n) ∧ -1000000000 ≤ v.f2 ∧ v.f2 ≤ 1000000000 := by
  unfold boundB at h
  simp only [Bool.and_eq_true, decide_eq_true_eq] at h
  omega
/-- A situation allowed by the bounds and the further one is allowed by both. -/
theorem allowed_snoc {n : Nat} {l : List S35} {v : S35} {x : List Int} (h : allowedB n l x = true) (hl : l.length ≤ 59) (hb : boundB n v = true) (hk : x.getD v.f1.toNat 0 - x.getD v.f0.toNat 0 ≤ v.f2) : allowedB n (l ++ [v]) x = true := by
  unfold allowedB at h ⊢
  simp only [Bool.and_eq_true, List.all_append, List.all_cons, List.all_nil, Bool.and_true] at h ⊢
  refine ⟨⟨⟨valid_snoc h.1.1.1 hl hb, h.1.1.2⟩, h.1.2⟩, h.2, ?_⟩
  unfold keepB
  rw [decide_eq_true_eq]
  exact hk
theorem tbl_get {n : Nat} {D : Ti} {i k : Nat} (hi : i < n) (hk : k < n) : ((tblL n D).getD i []).getD k 0 = D i k := by
  simp [tblL, rowL, List.getD_eq_getElem?_getD, hi, hk]
section
variable {n : Nat} {l : List S35} {v : S35} (h : closeB n l = true) (h' : closeB n (l ++ [v]) = true)
include h h'
theorem more_le {i k : Nat} (hi : i < n) (hk : k < n) : distI n (bds (l ++ [v])) i k ≤ distI n (bds l) i k := by
  rcases dist_cases (close_valid h) (close_fine h) hi hk with ⟨_, e⟩ | ⟨x, e1, e2, e3⟩
  · rw [e]
    rcases dist_cases (close_valid h') (close_fine h') hi hk with ⟨_, e'⟩ | ⟨y, _, e', hy⟩
    · rw [e']; exact Int.le_refl _
    · rw [e']; unfold Far; omega
  · rw [e2]
    obtain ⟨y, hy, hle⟩ := (close_least h').2 i k x hi hk (((close_least h).1 i k x e1).sub fun e he => by rw [bds_snoc]; exact List.mem_append_left _ he)
    rw [distI_eq (close_valid h'), hy]
    exact hle
theorem more_same (hb : boundB n v = true) (hle : distI n (bds l) v.f0.toNat v.f1.toNat ≤ v.f2) {i k : Nat} (hi : i < n) (hk : k < n) : distI n (bds (l ++ [v])) i k = distI n (bds l) i k := by
  obtain ⟨b0, b1, b2⟩ := bound_out hb
  have hf : v.f0.toNat < n := by omega
  have ht : v.f1.toNat < n := by omega
  have hw : LeO (distT n (bds l) v.f0.toNat v.f1.toNat) v.f2 := by
    rcases dist_cases (close_valid h) (close_fine h) hf ht with ⟨_, e⟩ | ⟨x, e1, e2, _⟩
    · rw [e] at hle; unfold Far at hle; omega
    · rw [e2] at hle; exact ⟨x, e1, hle⟩
  have hL := close_least h
  have hL' : Least (bds (l ++ [v])) n (distT n (bds l)) := by
    refine ⟨fun a b x hx => (hL.1 a b x hx).sub fun e he => by rw [bds_snoc]; exact List.mem_append_left _ he, fun a b s ha hb hc => ?_⟩
    rw [bds_snoc] at hc
    obtain ⟨s', h1, h2⟩ := hc.more hL (valid_in (close_valid h)) hf ht hw hb ha
    exact (hL.2 a b s' ha hb h1).mono h2
  rw [distI_eq (close_valid h), distI_eq (close_valid h'), (close_least h').same hL' hi hk]
theorem more_not (hb : boundB n v = true) (hlt : v.f2 < distI n (bds l) v.f0.toNat v.f1.toNat) : distI n (bds (l ++ [v])) v.f0.toNat v.f1.toNat ≠ distI n (bds l) v.f0.toNat v.f1.toNat := by
  obtain ⟨b0, b1, b2⟩ := bound_out hb
  have hf : v.f0.toNat < n := by omega
  have ht : v.f1.toNat < n := by omega
  obtain ⟨y, hy, hle⟩ := (close_least h').2 _ _ v.f2 hf ht (Ch.one (by rw [bds_snoc]; exact List.mem_append_right _ (List.mem_singleton.2 rfl)))
  rw [distI_eq (close_valid h'), hy]
  show y ≠ _
  omega
theorem implied_iff (hb : boundB n v = true) : impliedB n l v = decide (distI n (bds l) v.f0.toNat v.f1.toNat ≤ v.f2) := by
  unfold impliedB
  have hc := h
  unfold closeB at hc
  rw [Bool.and_eq_true] at hc
  rw [hc.1, hb, hc.2, Int.toNat_natCast]
  rfl
theorem more_law (hb : boundB n v = true) : impliedB n l v = decide (tblL n (distI n (bds (l ++ [v]))) = tblL n (distI n (bds l))) := by
  rw [implied_iff h h' hb]
  obtain ⟨b0, b1, b2⟩ := bound_out hb
  by_cases hle : distI n (bds l) v.f0.toNat v.f1.toNat ≤ v.f2
  · rw [decide_eq_true hle, decide_eq_true]
    refine List.map_congr_left fun i hi => List.map_congr_left fun k hk => ?_
    exact more_same h h' hb hle (List.mem_range.1 hi) (List.mem_range.1 hk)
  · rw [decide_eq_false hle, decide_eq_false]
    intro e
    apply more_not h h' hb (by omega)
    have := congrArg (fun t => (t.getD v.f0.toNat []).getD v.f1.toNat 0) e
    simp only [tbl_get (show v.f0.toNat < n by omega) (show v.f1.toNat < n by omega)] at this
    exact this
end
/-- The law More, all at once. -/
theorem more_all (x : Nums) {j0 j1 : Nat} (h0 : j0 < hidN x.n) (h1 : j1 < hidN x.n) (p : Int) (hp : 0 ≤ p ∧ p < 60) {m : Int} (hm : m = (hidL x.n x.hs).getD j1 0 - (hidL x.n x.hs).getD j0 0 + p) :
    closeB (hidN x.n) (baseL x) = true ∧ closeB (hidN x.n) (baseL x ++ [⟨j0, j1, m⟩]) = true ∧ (∀ i k, i < hidN x.n → k < hidN x.n → distI (hidN x.n) (bds (baseL x ++ [⟨j0, j1, m⟩])) i k ≤ distI (hidN x.n) (bds (baseL x)) i k) ∧
    impliedB (hidN x.n) (baseL x) ⟨j0, j1, m⟩ = decide (tblL (hidN x.n) (distI (hidN x.n) (bds (baseL x ++ [⟨j0, j1, m⟩]))) = tblL (hidN x.n) (distI (hidN x.n) (bds (baseL x)))) := by
  have hr0 := hidL_range x.n x.hs j0
  have hr1 := hidL_range x.n x.hs j1
  have hb : boundB (hidN x.n) ⟨(j0 : Int), (j1 : Int), m⟩ = true := bound_of (by simp only; omega) (by simp only; omega) (by simp only; omega)
  have hal := allowed_snoc (v := ⟨(j0 : Int), (j1 : Int), m⟩) (base_allowed x) (by rw [baseL_len]; omega) hb (by simp only [Int.toNat_natCast]; omega)
  have hv := valid_snoc (v := ⟨(j0 : Int), (j1 : Int), m⟩) (base_valid x) (by rw [baseL_len]; omega) hb
  have hc' := (close_iff hv).2 (by have := allowed_fine hal; rwa [Int.toNat_natCast] at this)
  exact ⟨base_close x, hc', fun i k hi hk => more_le (base_close x) hc' hi hk, more_law (base_close x) hc' hb⟩
end Go.Proofs.Ytlokeimfmbgigaa.Pl

set_option linter.unusedVariables false
namespace Go.Proofs.Ytlokeimfmbgigaa.Pl
open Go.RowKit Go.Proofs.YtlokeimfmbgigaaW.PrintWords
open Go.Proofs.Ytlokeimfmbgigaa.Ref Go.Proofs.Ytlokeimfmbgigaa.Bk
theorem ChN.bd300 {E : List Bd} (hE : ∀ e ∈ E, -300 ≤ e.2.2 ∧ e.2.2 ≤ 300) {m i k : Nat} {s : Int} (h : ChN E m i k s) : -(300 * (m : Int)) ≤ s ∧ s ≤ 300 * (m : Int) := by
  induction h with
  | nil i => omega
  | snoc _ he ih => have := hE _ he; simp only at this; omega
theorem made_300 (x : Nums) : ∀ e ∈ bds (madeL x), -300 ≤ e.2.2 ∧ e.2.2 ≤ 300 := by
  intro e he
  obtain ⟨b, hb, rfl⟩ := List.mem_map.1 he
  exact (made_in x hb).2.2
theorem made_dist (x : Nums) (hf : Fine (hidN x.n) (bds (madeL x))) {i k : Nat} (hi : i < hidN x.n) (hk : k < hidN x.n) {d : Int} (hd : distT (hidN x.n) (bds (madeL x)) i k = some d) : -2400 ≤ d ∧ d ≤ 2400 := by
  have hL := dist_least (valid_in (made_valid x)) hf
  obtain ⟨m, hc⟩ := (hL.1 i k d hd).chN
  obtain ⟨m', s', h1, h2, h3, h4⟩ := hc.short (valid_in (made_valid x)) hf m
  obtain ⟨y, hy, hle⟩ := hL.2 i k s' hi hk h4.ch
  rw [hd] at hy
  have : d = y := by injection hy
  have hb := h4.bd300 (made_300 x)
  have := hidN_range x.n
  omega
/-- Bounds that contradict each other are those of which one was made less. -/
theorem made_misses (x : Nums) (h : closeB (hidN x.n) (madeL x) = false) : missB x.miss = true := by
  cases hm : missB x.miss with
  | true => rfl
  | false =>
    have : madeL x = baseL x := lessL_not hm _
    rw [this, base_close] at h
    cases h
/-- The situation of just the distances from a variable. -/
def thereV (x : Nums) (k i : Nat) : Int := if distI (hidN x.n) (bds (madeL x)) k i = Far then 1000000000 + (solveL (hidN x.n) (madeL x)).getD i 0 else distI (hidN x.n) (bds (madeL x)) k i
def thereL (x : Nums) (k : Nat) : List Int := (List.range (hidN x.n)).map (thereV x k)
theorem thereL_len (x : Nums) (k : Nat) : (thereL x k).length = hidN x.n := by simp [thereL]
theorem thereL_get (x : Nums) (k : Nat) {i : Nat} (hi : i < hidN x.n) : (thereL x k).getD i 0 = thereV x k i := by
  rw [List.getD_eq_getElem?_getD]
  simp [thereL, hi]
section
variable (x : Nums) (h : closeB (hidN x.n) (madeL x) = true)
include h
theorem sol_2400 {j : Nat} (hj : j < hidN x.n) : -2400 ≤ (solveL (hidN x.n) (madeL x)).getD j 0 ∧ (solveL (hidN x.n) (madeL x)).getD j 0 ≤ 0 := by
  rw [solveL_get h hj]
  refine ⟨?_, solT_zero _ _ _⟩
  rcases solT_got (distT (hidN x.n) (bds (madeL x))) j (hidN x.n) with e | ⟨i, hi, e⟩
  · omega
  · exact (made_dist x (close_fine h) hi hj e).1
theorem there_cases {k i : Nat} (hk : k < hidN x.n) (hi : i < hidN x.n) : (distT (hidN x.n) (bds (madeL x)) k i = none ∧ thereV x k i = 1000000000 + (solveL (hidN x.n) (madeL x)).getD i 0) ∨ ∃ d, distT (hidN x.n) (bds (madeL x)) k i = some d ∧ thereV x k i = d ∧ -2400 ≤ d ∧ d ≤ 2400 := by
  unfold thereV
  rcases dist_cases (close_valid h) (close_fine h) hk hi with ⟨e1, e2⟩ | ⟨d, e1, e2, _⟩
  · left
    rw [if_pos e2]
    exact ⟨e1, rfl⟩
  · right
    have hb := made_dist x (close_fine h) hk hi e1
    rw [e2, if_neg (by unfold Far; omega)]
    exact ⟨d, e1, rfl, hb⟩
theorem there_range {k i : Nat} (hk : k < hidN x.n) (hi : i < hidN x.n) : -2400 ≤ thereV x k i ∧ thereV x k i ≤ 1000000000 := by
  have := sol_2400 x h hi
  rcases there_cases x h hk hi with ⟨_, e⟩ | ⟨d, _, e, hd⟩ <;> omega
theorem there_zero {k : Nat} (hk : k < hidN x.n) : thereV x k k = 0 := by
  have hd := least_diag (close_least h) (close_fine h) hk
  rcases there_cases x h hk hk with ⟨e, _⟩ | ⟨d, e, e2, _⟩
  · rw [hd] at e; cases e
  · rw [hd] at e
    injection e with e
    omega
theorem there_allowed {k : Nat} (hk : k < hidN x.n) : allowedB (hidN x.n) (madeL x) (thereL x k) = true := by
  unfold allowedB
  simp only [Bool.and_eq_true, decide_eq_true_eq]
  refine ⟨⟨⟨made_valid x, by rw [thereL_len]⟩, List.all_eq_true.2 fun v hv => ?_⟩, (keeps_iff _ _).2 fun e he => ?_⟩
  · obtain ⟨j, hj, rfl⟩ := List.mem_map.1 hv
    have := there_range x h hk (List.mem_range.1 hj)
    unfold nearB
    rw [decide_eq_true_eq]
    omega
  · obtain ⟨h1, h2⟩ := valid_in (made_valid x) e he
    simp only
    rw [thereL_get _ _ h1, thereL_get _ _ h2]
    have hw := made_300 x e he
    have hs1 := sol_2400 x h h1
    rcases there_cases x h hk h1 with ⟨e1, e2⟩ | ⟨d1, e1, e2, hd1⟩
    · rcases there_cases x h hk h2 with ⟨e3, e4⟩ | ⟨d2, e3, e4, hd2⟩
      · rw [e2, e4]
        have := allowed_keeps (solve_allowed h) e he
        simp only at this
        omega
      · rw [e2, e4]; omega
    · obtain ⟨y, hy, hle⟩ := row_keeps (close_least h) (valid_in (made_valid x)) hk e he d1 e1
      rcases there_cases x h hk h2 with ⟨e3, e4⟩ | ⟨d2, e3, e4, hd2⟩
      · rw [hy] at e3; cases e3
      · rw [hy] at e3
        injection e3 with e3
        rw [e2, e4]
        omega
/-- An allowed situation keeps all distances. -/
theorem least_law {y : List Int} (hy : allowedB (hidN x.n) (madeL x) y = true) {i j : Nat} (hi : i < hidN x.n) (hj : j < hidN x.n) : y.getD j 0 - y.getD i 0 ≤ distI (hidN x.n) (bds (madeL x)) i j ∧ (-1000000000000 ≤ y.getD i 0 ∧ y.getD i 0 ≤ 1000000000000) ∧ (-1000000000000 ≤ y.getD j 0 ∧ y.getD j 0 ≤ 1000000000000) ∧ y.length = hidN x.n := by
  have hy' := hy
  unfold allowedB at hy'
  simp only [Bool.and_eq_true, decide_eq_true_eq, List.all_eq_true] at hy'
  have hlen : y.length = hidN x.n := by have := hy'.1.1.2; omega
  have near : ∀ q, q < hidN x.n → -1000000000000 ≤ y.getD q 0 ∧ y.getD q 0 ≤ 1000000000000 := fun q hq => by
    have := hy'.1.2 (y.getD q 0) (by rw [List.getD_eq_getElem?_getD, List.getElem?_eq_getElem (by omega)]; exact List.getElem_mem _)
    unfold nearB at this
    rwa [decide_eq_true_eq] at this
  refine ⟨?_, near i hi, near j hj, hlen⟩
  rcases dist_cases (close_valid h) (close_fine h) hi hj with ⟨_, e⟩ | ⟨d, e1, e2, _⟩
  · have := near i hi
    have := near j hj
    rw [e]
    unfold Far
    omega
  · rw [e2]
    exact allowed_dist hy (by rwa [Int.toNat_natCast])
end
end Go.Proofs.Ytlokeimfmbgigaa.Pl

set_option linter.unusedVariables false
namespace Go.Proofs.Ytlokeimfmbgigaa.Pl
open Go.RowKit Go.Proofs.YtlokeimfmbgigaaW.PrintWords
open Go.Proofs.Ytlokeimfmbgigaa.Ref Go.Proofs.Ytlokeimfmbgigaa.Bk
theorem rd_mem {l : List S35} {k : Int} (h : 0 ≤ k ∧ k ≤ (l.length : Int) - 1) : rd_T35 l k ∈ l := by
  unfold rd_T35
  rw [List.getD_eq_getElem?_getD, List.getElem?_eq_getElem (by omega)]
  exact List.getElem_mem _
theorem fol_sound {n : Nat} {l : List S35} (hv : validB n l = true) (ks : List Int) : ∀ (i : Nat) (sum : Int), (folB l i sum ks).2.2 = true → ∃ (j : Nat) (s : Int), (folB l i sum ks).1 = (j : Int) ∧ (folB l i sum ks).2.1 = sum + s ∧ Ch (bds l) i j s := by
  induction ks with
  | nil => intro i sum _; exact ⟨i, 0, rfl, by simp [folB], .nil i⟩
  | cons k ks ih =>
    intro i sum h
    simp only [folB] at h ⊢
    by_cases hc : 0 ≤ k ∧ k ≤ (l.length : Int) - 1 ∧ (rd_T35 l k).f0 = (i : Int)
    · rw [if_pos hc] at h ⊢
      have hm := rd_mem (l := l) ⟨hc.1, hc.2.1⟩
      have hb := valid_mem hv hm
      have e1 : (rd_T35 l k).f1 = (((rd_T35 l k).f1.toNat : Nat) : Int) := by omega
      rw [e1] at h ⊢
      obtain ⟨j, s, h1, h2, h3⟩ := ih (rd_T35 l k).f1.toNat (sum + (rd_T35 l k).f2) h
      refine ⟨j, (rd_T35 l k).f2 + s, h1, by rw [h2]; omega, ?_⟩
      refine Ch.cons ?_ h3
      have : (((rd_T35 l k).f0.toNat, (rd_T35 l k).f1.toNat, (rd_T35 l k).f2) : Bd) ∈ bds l := List.mem_map.2 ⟨_, hm, rfl⟩
      rw [hc.2.2, Int.toNat_natCast] at this
      exact this
    · rw [if_neg hc] at h
      cases h
/-- What CheckChain accepts follows. -/
theorem check_sound {n : Nat} {l : List S35} {v : S35} {ks : List Int} (h : checkChainB n l v ks = true) : boundB n v = true ∧ ∃ s, s ≤ v.f2 ∧ Ch (bds l) v.f0.toNat v.f1.toNat s := by
  unfold checkChainB chainB followP at h
  simp only [Bool.and_eq_true, decide_eq_true_eq, beq_iff_eq] at h
  obtain ⟨⟨hv, hb⟩, ⟨⟨h1, h2⟩, h3⟩, h4⟩ := h
  obtain ⟨b0, b1, b2⟩ := bound_out hb
  have e0 : v.f0 = ((v.f0.toNat : Nat) : Int) := by omega
  rw [e0] at h1 h3 h4
  obtain ⟨j, s, g1, g2, g3⟩ := fol_sound hv ks v.f0.toNat 0 h1
  rw [g1] at h3
  rw [g2] at h4
  refine ⟨hb, s, by omega, ?_⟩
  rw [← h3, Int.toNat_natCast]
  exact g3
theorem fol_chain {n : Nat} {l : List S35} (hv : validB n l = true) (t : Nat) (m : Nat) : ∀ (i : Nat) (s sum : Int), m ≤ 100 → s + 1000000000 * (m : Int) < Far → LeO (walkT (bds l) m i t) s →
    ∃ σ, σ ≤ s ∧ folB l i sum ((chainK l t m i s).map fun (k : Nat) => (k : Int)) = ((t : Int), sum + σ, true) := by
  induction m with
  | zero =>
    intro i s sum _ _ h
    obtain ⟨x, hx, hle⟩ := h
    rcases (walk_sound _ _ _ _ _ hx).uncons with ⟨_, rfl, rfl⟩ | ⟨m', _, _, _, e, _⟩
    · exact ⟨0, hle, by simp [chainK, folB]⟩
    · omega
  | succ m ih =>
    intro i s sum hm hs h
    obtain ⟨k0, hk0, hn0⟩ := next_ex hv (m := m) hm (by omega) h
    have hlt : l.findIdx (nextB l m i t s) < l.length := List.findIdx_lt_length_of_exists ⟨l.getD k0 z35, by rw [List.getD_eq_getElem?_getD, List.getElem?_eq_getElem hk0]; exact List.getElem_mem hk0, hn0⟩
    obtain ⟨k, hk⟩ : ∃ k, l.findIdx (nextB l m i t s) = k := ⟨_, rfl⟩
    have hnk : nextB l m i t s (l.getD k z35) = true := by
      rw [← hk, List.getD_eq_getElem?_getD, List.getElem?_eq_getElem hlt]
      exact List.findIdx_getElem (w := hlt)
    rw [hk] at hlt
    obtain ⟨g1, g2⟩ := next_go hv (m := m) (by omega) (by omega) hlt hnk
    have hb := valid_at hv hlt
    obtain ⟨σ, h1, h2⟩ := ih (l.getD k z35).f1.toNat (s - (l.getD k z35).f2) (sum + (l.getD k z35).f2) (by omega) (by omega) g2
    refine ⟨(l.getD k z35).f2 + σ, by omega, ?_⟩
    have e1 : (((l.getD k z35).f1.toNat : Nat) : Int) = (l.getD k z35).f1 := by omega
    rw [e1] at h2
    have er : rd_T35 l (k : Int) = l.getD k z35 := by unfold rd_T35; rw [Int.toNat_natCast]
    simp only [chainK, hk, List.map_cons, folB]
    rw [er, if_pos ⟨by omega, by omega, g1⟩, h2]
    simp only [Prod.mk.injEq, and_true, true_and]
    omega
/-- What Implied returns is accepted by CheckChain. -/
theorem implied_checks {n : Nat} {l : List S35} {v : S35} (h : impliedB n l v = true) : checkChainB n l v (impL n l v) = true := by
  have h' := h
  unfold impliedB at h'
  simp only [Bool.and_eq_true, decide_eq_true_eq, Int.toNat_natCast] at h'
  obtain ⟨⟨⟨hv, hb⟩, hf⟩, hd⟩ := h'
  obtain ⟨b0, b1, b2⟩ := bound_out hb
  have h16 := valid_16 hv
  obtain ⟨m, hm, hw, hq⟩ := imp_ex hv hf (show v.f0.toNat < n by omega) (show v.f1.toNat < n by omega) (show v.f2 < Far by unfold Far; omega) hd
  have hL := leastM_is (l := l) (f := v.f0.toNat) (t := v.f1.toNat) (s := v.f2) (m := m) (by omega) hw hq
  obtain ⟨σ, hσ, hfol⟩ := fol_chain hv v.f1.toNat m v.f0.toNat v.f2 0 (by omega) (by unfold Far; omega) ((walkI_le (bds_small hv) (by omega) (by unfold Far; omega)).1 hw)
  have hlen : (chainK l v.f1.toNat m v.f0.toNat v.f2).length = m := chainK_len _ _ _ _ _
  unfold checkChainB chainB followP impL
  rw [if_pos h]
  unfold impK
  rw [hL, hv, hb]
  have e0 : ((v.f0.toNat : Nat) : Int) = v.f0 := by omega
  rw [e0] at hfol
  rw [hfol]
  simp only [Bool.true_and, List.length_map, hlen, Bool.and_eq_true, decide_eq_true_eq, beq_iff_eq]
  omega
end Go.Proofs.Ytlokeimfmbgigaa.Pl

set_option linter.unusedVariables false
namespace Go.Proofs.Ytlokeimfmbgigaa.Pl
open Go.RowKit Go.Proofs.YtlokeimfmbgigaaW.PrintWords
open Go.Proofs.Ytlokeimfmbgigaa.Ref Go.Proofs.Ytlokeimfmbgigaa.Bk
/-- A chain keeps: its sum is no less than the difference in an allowed situation. -/
theorem ch_keeps {n : Nat} {l : List S35} {y : List Int} (h : allowedB n l y = true) {i j : Nat} {s : Int} (hc : Ch (bds l) i j s) : y.getD j 0 - y.getD i 0 ≤ s := hc.keeps (allowed_keeps h)
theorem implied_ch {n : Nat} {l : List S35} {v : S35} (h : closeB n l = true) (hb : boundB n v = true) (hi : impliedB n l v = true) : ∃ s, s ≤ v.f2 ∧ Ch (bds l) v.f0.toNat v.f1.toNat s := by
  obtain ⟨b0, b1, b2⟩ := bound_out hb
  have hd : distI n (bds l) v.f0.toNat v.f1.toNat ≤ v.f2 := by
    unfold impliedB at hi
    simp only [Bool.and_eq_true, decide_eq_true_eq, Int.toNat_natCast] at hi
    exact hi.2
  rcases dist_cases (close_valid h) (close_fine h) (show v.f0.toNat < n by omega) (show v.f1.toNat < n by omega) with ⟨_, e⟩ | ⟨x, e1, e2, _⟩
  · rw [e] at hd; unfold Far at hd; omega
  · rw [e2] at hd
    exact ⟨x, hd, (close_least h).1 _ _ x e1⟩
theorem ch_implied {n : Nat} {l : List S35} {v : S35} (h : closeB n l = true) (hb : boundB n v = true) {s : Int} (hs : s ≤ v.f2) (hc : Ch (bds l) v.f0.toNat v.f1.toNat s) : impliedB n l v = true := by
  obtain ⟨b0, b1, b2⟩ := bound_out hb
  obtain ⟨y, hy, hle⟩ := (close_least h).2 _ _ s (show v.f0.toNat < n by omega) (show v.f1.toNat < n by omega) hc
  unfold impliedB
  have hcl := h
  unfold closeB at hcl
  rw [Bool.and_eq_true] at hcl
  rw [hcl.1, hb, hcl.2, Int.toNat_natCast, distI_eq (close_valid h), hy]
  simp only [Bool.true_and, decide_eq_true_eq]
  show y ≤ _
  omega
theorem allowed_sub {n : Nat} {l : List S35} {v : S35} {y : List Int} (hl : validB n l = true) (h : allowedB n (l ++ [v]) y = true) : allowedB n l y = true ∧ y.getD v.f1.toNat 0 - y.getD v.f0.toNat 0 ≤ v.f2 := by
  unfold allowedB at h ⊢
  simp only [Bool.and_eq_true, List.all_append, List.all_cons, List.all_nil, Bool.and_true] at h ⊢
  refine ⟨⟨⟨⟨hl, h.1.1.2⟩, h.1.2⟩, h.2.1⟩, ?_⟩
  have := h.2.2
  unfold keepB at this
  rw [decide_eq_true_eq] at this
  exact this
/-- The law Implies, all at once. -/
theorem implies_all (x : Nums) {j0 j1 : Nat} (h0 : j0 < hidN x.n) (h1 : j1 < hidN x.n) (p : Int) (hp : 0 ≤ p ∧ p < 60) {m : Int} (hm : m = (hidL x.n x.hs).getD j1 0 - (hidL x.n x.hs).getD j0 0 + p - 20) :
    (∀ ks, checkChainB (hidN x.n) (baseL x) ⟨j0, j1, m⟩ ks = true → impliedB (hidN x.n) (baseL x) ⟨j0, j1, m⟩ = true) ∧
    (impliedB (hidN x.n) (baseL x) ⟨j0, j1, m⟩ = true → (hidL x.n x.hs).getD j1 0 - (hidL x.n x.hs).getD j0 0 ≤ m ∧ (solveL (hidN x.n) (baseL x)).getD j1 0 - (solveL (hidN x.n) (baseL x)).getD j0 0 ≤ m ∧ checkChainB (hidN x.n) (baseL x) ⟨j0, j1, m⟩ (impL (hidN x.n) (baseL x) ⟨j0, j1, m⟩) = true) ∧
    (impliedB (hidN x.n) (baseL x) ⟨j0, j1, m⟩ = false → impL (hidN x.n) (baseL x) ⟨j0, j1, m⟩ = [] ∧ closeB (hidN x.n) (baseL x ++ [⟨j1, j0, -m - 1⟩]) = true ∧ allowedB (hidN x.n) (baseL x) (solveL (hidN x.n) (baseL x ++ [⟨j1, j0, -m - 1⟩])) = true ∧
      m < (solveL (hidN x.n) (baseL x ++ [⟨j1, j0, -m - 1⟩])).getD j1 0 - (solveL (hidN x.n) (baseL x ++ [⟨j1, j0, -m - 1⟩])).getD j0 0) := by
  have hr0 := hidL_range x.n x.hs j0
  have hr1 := hidL_range x.n x.hs j1
  have hc := base_close x
  have hb : boundB (hidN x.n) ⟨(j0 : Int), (j1 : Int), m⟩ = true := bound_of (by simp only; omega) (by simp only; omega) (by simp only; omega)
  have hb' : boundB (hidN x.n) ⟨(j1 : Int), (j0 : Int), -m - 1⟩ = true := bound_of (by simp only; omega) (by simp only; omega) (by simp only; omega)
  refine ⟨fun ks hk => ?_, fun hi => ?_, fun hi => ?_⟩
  · obtain ⟨_, s, hs, hch⟩ := check_sound hk
    exact ch_implied hc hb hs hch
  · obtain ⟨s, hs, hch⟩ := implied_ch hc hb hi
    simp only [Int.toNat_natCast] at hs hch
    have g1 := ch_keeps (base_allowed x) hch
    have g2 := ch_keeps (solve_allowed hc) hch
    exact ⟨by omega, by omega, implied_checks hi⟩
  · refine ⟨by unfold impL; rw [hi]; rfl, ?_⟩
    have hmz : madeL ⟨x.n, x.hs, x.bs, 0⟩ = baseL x := lessL_zero _
    have hc0 : closeB (hidN x.n) (madeL ⟨x.n, x.hs, x.bs, 0⟩) = true := by rw [hmz]; exact hc
    have hal := there_allowed ⟨x.n, x.hs, x.bs, 0⟩ hc0 (k := j0) h0
    have hz := there_zero ⟨x.n, x.hs, x.bs, 0⟩ hc0 (k := j0) h0
    have hcs := there_cases ⟨x.n, x.hs, x.bs, 0⟩ hc0 (k := j0) (i := j1) h0 h1
    have hsl := sol_2400 ⟨x.n, x.hs, x.bs, 0⟩ hc0 (j := j1) h1
    have g0 := thereL_get ⟨x.n, x.hs, x.bs, 0⟩ j0 (i := j0) h0
    have g1 := thereL_get ⟨x.n, x.hs, x.bs, 0⟩ j0 (i := j1) h1
    have hlt : m < thereV ⟨x.n, x.hs, x.bs, 0⟩ j0 j1 := by
      rcases hcs with ⟨_, e⟩ | ⟨d, e1, e2, _⟩
      · rw [e]; simp only at hsl ⊢; omega
      · rw [e2]
        by_cases hle : d ≤ m
        · exfalso
          rw [hmz] at e1
          have := ch_implied hc hb (s := d) hle (by simp only [Int.toNat_natCast]; exact (close_least hc).1 _ _ d e1)
          rw [hi] at this
          cases this
        · omega
    rw [hmz] at hal
    have hal2 := allowed_snoc (v := ⟨(j1 : Int), (j0 : Int), -m - 1⟩) hal (by rw [baseL_len]; omega) hb' (by simp only [Int.toNat_natCast]; rw [g0, g1, hz]; omega)
    have hv := valid_snoc (v := ⟨(j1 : Int), (j0 : Int), -m - 1⟩) (base_valid x) (by rw [baseL_len]; omega) hb'
    have hcc := (close_iff hv).2 (by have := allowed_fine hal2; rwa [Int.toNat_natCast] at this)
    obtain ⟨q1, q2⟩ := allowed_sub (base_valid x) (solve_allowed hcc)
    simp only [Int.toNat_natCast] at q2
    exact ⟨hcc, q1, by omega⟩
end Go.Proofs.Ytlokeimfmbgigaa.Pl

set_option linter.unusedVariables false
namespace Go.Proofs.Ytlokeimfmbgigaa.Bk
open Go.RowKit Go.Shelf Go.Proofs.YtlokeimfmbgigaaW.PrintWords Go.Proofs.YtlokeimfmbgigaaW.PrintLast Go.Proofs.YtlokeimfmbgigaaW.PrintMore
open Go.Proofs.Ytlokeimfmbgigaa.Ref Go.Proofs.Ytlokeimfmbgigaa.Pl Go.Proofs.Ytlokeimfmbgigaa.Qs

theorem Tw.form {w : World} {tb : List (List Int)} {v : Value} (h : Tw w tb v) : ∃ A k c, v = .slice A k c ∧ k = tb.length := by
  obtain ⟨A, c, rfl, _, _⟩ := h
  exact ⟨A, _, c, rfl, rfl⟩
/-- A row of a table. -/
theorem Tw.row {w : World} {tb : List (List Int)} {A : Option Addr} {k c : Nat} (h : Tw w tb (.slice A k c)) {i : Nat} (hi : i < tb.length) : ∃ ad B r d, A = some ad ∧ w.cell? (ad.add i) = some (.slice B r d) ∧ r = (tb.getD i []).length ∧ Iw w (tb.getD i []) (.slice B r d) := by
  obtain ⟨A', c', e, h1, h2, h3, h4⟩ := h
  simp only [Value.slice.injEq] at e
  obtain ⟨rfl, rfl, rfl⟩ := e
  obtain ⟨ad, e, hc⟩ := h4 (by omega)
  obtain ⟨cs, hl, ⟨B, d, e2, h5, h6⟩, hcell⟩ := hc i (tb.getD i []) (by rw [List.getD_eq_getElem?_getD, List.getElem?_eq_getElem hi]; rfl)
  subst e2
  have := hcell 0 _ rfl
  rw [Nat.add_zero, show i * (Kd.slice 3 (Kd.int IntKind.i64)).sz = i from Nat.mul_one i] at this
  exact ⟨ad, B, _, d, e, this, rfl, B, d, rfl, h5, h6⟩
theorem tbl_row_len {n : Nat} {D : Ti} {i : Nat} (hi : i < n) : ((tblL n D).getD i []).length = n := by
  simp [tblL, rowL, List.getD_eq_getElem?_getD, hi]
set_option maxHeartbeats 4000000 in
set_option maxRecDepth 100000 in
theorem betweenMore_calls (x : Nums) (v : Value) (q0 q1 q2 : Int) (w : World) (h : Nw w x v) (hq0 : I64 q0) (hq1 : I64 q1) (hq2 : I64 q2) :
    Calls Try.prog 3 #[v, .agg #[.int .i64 q0, .int .i64 q1, .int .i64 q2]] w fun e w' => e = .returned (.bool true) ∧ Below w.heap.size w w' := by
  obtain ⟨s1, s2, rfl, hX⟩ := Xb.start h
  have hX2 := hX.below ((Below.refl _ _).alloc (Nat.le_refl _) (.cells #[.int .i64 q0, .int .i64 q1, .int .i64 q2] 26))
  have hQ := blk_new (w.alloc (.cells #[.int .i64 x.n, s1, s2, .int .i64 x.miss] 25)) (.cells #[.int .i64 q0, .int .i64 q1, .int .i64 q2] 26)
  rw [World.size_alloc] at hQ
  have HX := Aside0.mk hX2
  have HQ := Aside0.mk hQ
  have HI := Aside0.mk (And.intro hq0 (And.intro hq1 hq2))
  have HR := Aside0.mk (hidN_range x.n)
  clear h hX hX2 hQ hq0 hq1 hq2
  go_enter Try.func3, Try.ntmps3
  go_wp2_with fail
  refine (sane_calls _).mono ?_
  rintro e w1 ⟨rfl, h1⟩
  replace HX := Aside0.mk (HX.out.below h1)
  replace HQ := Aside0.mk (blk_below HQ.out h1)
  clear h1
  have k0 := HX.out.c0
  have k1 := HX.out.c1
  have k2 := HX.out.c2
  have k3 := HX.out.c3
  have f3 := HX.out.f3
  go_wp2_with fail
  have HZ := Aside0.mk HX.out.zero
  replace HQ := Aside0.mk (blk_far HQ.out (p := ⟨w.heap.size, 3, none⟩) (by simp only; omega) (.int .i64 0))
  generalize w1.setCell ⟨w.heap.size, 3, none⟩ (.int .i64 0) = W1 at *
  clear k0 k1 k2 k3 f3 HX
  refine (made_calls _ _ W1 HZ.out.nw).mono ?_
  rintro e w2 ⟨u2, rfl, r2, h2⟩
  have hmz : madeL ⟨x.n, x.hs, x.bs, 0⟩ = baseL x := lessL_zero _
  rw [hmz] at r2
  replace HZ := Aside0.mk (HZ.out.below h2)
  replace HQ := Aside0.mk (blk_below HQ.out h2)
  obtain ⟨AB, kb, cb, rfl, hkb, hY⟩ := r2.box (w0 := w) HZ.out.bel.size
  have HY := Aside0.mk hY
  replace HZ := Aside0.mk (HZ.out.below ((Below.refl _ w2).alloc (Nat.le_refl _) (.cells #[.int .i64 (hidN x.n : Int), .slice AB kb cb] 30)))
  replace HQ := Aside0.mk (blk_alloc HQ.out (.cells #[.int .i64 (hidN x.n : Int), .slice AB kb cb] 30))
  clear hY h2 r2 hmz hkb
  have k0 := HZ.out.c0
  have k1 := HZ.out.c1
  have k2 := HZ.out.c2
  have k3 := HZ.out.c3
  go_wp2_with fail
  refine (hiddenV HZ.out.nw).mono ?_
  rintro e w3 ⟨u3, rfl, r3, h3⟩
  have HB := Aside0.mk (below_step HZ.out.bel h3)
  replace HY := Aside0.mk (HY.out.below h3)
  replace HQ := Aside0.mk (blk_below HQ.out h3)
  obtain ⟨AH, kh, ch, rfl, hkh, _⟩ := r3.form
  have HH := Aside0.mk r3
  have HKH := Aside0.mk (show kh = hidN x.n from hkh.trans (hidL_len _ _))
  clear hkh r3 h3 k0 k1 k2 k3 HZ
  obtain rfl := HKH.out
  clear HKH
  -- the further bound
  have hp0 := pickP_range q0 (hidN x.n) (by have := HR.out; omega)
  have hp1 := pickP_range q1 (hidN x.n) (by have := HR.out; omega)
  have hp2 := pickP_range q2 60 (by omega)
  obtain ⟨j0, hj0⟩ : ∃ j : Nat, pickP q0 (hidN x.n) = (j : Int) := ⟨(pickP q0 (hidN x.n)).toNat, by omega⟩
  obtain ⟨j1, hj1⟩ : ∃ j : Nat, pickP q1 (hidN x.n) = (j : Int) := ⟨(pickP q1 (hidN x.n)).toNat, by omega⟩
  obtain ⟨p2, hj2⟩ : ∃ p, pickP q2 60 = p := ⟨_, rfl⟩
  rw [hj0] at hp0
  rw [hj1] at hp1
  rw [hj2] at hp2
  have HJ := Aside0.mk (And.intro (show j0 < hidN x.n by omega) (And.intro (show j1 < hidN x.n by omega) hp2))
  have PK0 := Aside0.mk (fun X => pickL1 q0 (hidN x.n) j0 X HI.out.1 (by have := HR.out; omega) hj0)
  have PK1 := Aside0.mk (fun X => pickL1 q1 (hidN x.n) j1 X HI.out.2.1 (by have := HR.out; omega) hj1)
  have PK2 := Aside0.mk (fun X => pickL1 q2 60 p2 X HI.out.2.2 (by omega) hj2)
  clear hp0 hp1 hp2 hj0 hj1 hj2
  obtain ⟨ah, rfl, hz0⟩ := HH.out.at (show j0 < (hidL x.n x.hs).length by rw [hidL_len]; exact HJ.out.1)
  obtain ⟨ad, e, hz1⟩ := HH.out.at (show j1 < (hidL x.n x.hs).length by rw [hidL_len]; exact HJ.out.2.1)
  obtain rfl : ah = ad := by injection e
  have hv0 := hidL_range x.n x.hs j0
  have hv1 := hidL_range x.n x.hs j1
  have HLAW := Aside0.mk (fun m hm => more_all x HJ.out.1 HJ.out.2.1 p2 HJ.out.2.2 (m := m) hm)
  clear e HH
  have HLEN := Aside0.mk (show (baseL x).length ≤ 16 from by rw [baseL_len]; omega)
  generalize (hidL x.n x.hs).getD j0 0 = z0 at *
  generalize (hidL x.n x.hs).getD j1 0 = z1 at *
  generalize baseL x = l at *
  generalize hidN x.n = N at *
  obtain ⟨m, hm⟩ : ∃ m, m = z1 - z0 + p2 := ⟨_, rfl⟩
  replace HLAW := Aside0.mk (HLAW.out m hm)
  have hw1 : IntKind.i64.wrap (z1 - z0) = z1 - z0 := IntWalk.i64_in _ (by omega)
  have hw2 : IntKind.i64.wrap (z1 - z0 + p2) = m := (IntWalk.i64_in _ (by have := HJ.out.2.2; omega)).trans hm.symm
  have HW := Aside0.mk (And.intro hw1 hw2)
  have HZ0 := Aside0.mk hz0
  have HZ1 := Aside0.mk hz1
  have y0 : w3.cell? ⟨w.heap.size + 1, 0, none⟩ = some (.int .i64 q0) := (blk_cell HQ.out 0).trans rfl
  have y1 : w3.cell? ⟨w.heap.size + 1, 1, none⟩ = some (.int .i64 q1) := (blk_cell HQ.out 1).trans rfl
  have k0 := HY.out.c0
  have HLA := Aside0.mk (show w.heap.size + 1 < w3.heap.size ∧ w2.heap.size < w3.heap.size from ⟨World.block_lt_of_cell? w3 _ y0, World.block_lt_of_cell? w3 _ k0⟩)
  clear hw1 hw2 hz0 hz1 hv0 hv1 hm
  generalize hg5 : w2.heap.size = g5 at *
  clear hg5
  go_upto_region 6 with (fail)
  go_cut [7] (fun s7 w' => ∃ gy, s7 = .pointer (some ⟨gy, 0, none⟩) ∧ Aside0 (w'.heap[gy]? = some (.cells #[.int .i64 (j0 : Int), .int .i64 (j1 : Int), .int .i64 0] 35 (0, 0))) ∧ Aside0 (Below w3.heap.size w3 w') ∧ Aside0 (w3.heap.size ≤ gy))
  case first =>
    go_region_held3 (fun w' => w'.cell? ⟨w.heap.size + 1, 0, none⟩ = some (.int .i64 q0) ∧ w'.cell? ⟨w.heap.size + 1, 1, none⟩ = some (.int .i64 q1) ∧ w'.cell? ⟨g5, 0, none⟩ = some (.int .i64 (N : Int)))
      (first | exact ⟨y0, y1, k0⟩ | exact ⟨cell_alloc_far y0 _, cell_alloc_far y1 _, cell_alloc_far k0 _⟩ | exact ⟨cell_far3 (cell_alloc_far y0 _) HLA.out.1 _ _ _, cell_far3 (cell_alloc_far y1 _) HLA.out.1 _ _ _, cell_far3 (cell_alloc_far k0 _) HLA.out.2 _ _ _⟩ | go_keep)
      (first | (go_at_call 13; (with_reducible refine (PK0.out _).mono ?_); rintro e wz ⟨rfl, rfl⟩) | (go_at_call 13; (with_reducible refine (PK1.out _).mono ?_); rintro e wz ⟨rfl, rfl⟩))
    all_goals
      go_wp2_with fail
      go_meet
      case rel => exact ⟨w3.heap.size, rfl, ⟨blk_drew (blk_new w3 _)⟩, ⟨below_drew ((Below.refl _ w3).alloc (Nat.le_refl _) _)⟩, ⟨Nat.le_refl _⟩⟩
  case rest =>
    obtain ⟨gy, rfl, HV, HBr, HGY⟩ := hcut
    have HBX := Aside0.mk (pw_cell_below HBr.out HZ0.out)
    have HBY := Aside0.mk (pw_cell_below HBr.out HZ1.out)
    have hb0 := HBX.out
    have hb1 := HBY.out
    have x0 : wc.cell? ⟨gy, 0, none⟩ = some (.int .i64 (j0 : Int)) := (blk_cell HV.out 0).trans rfl
    have x1 : wc.cell? ⟨gy, 1, none⟩ = some (.int .i64 (j1 : Int)) := (blk_cell HV.out 1).trans rfl
    have x2 : wc.cell? ⟨gy, 2, none⟩ = some (.int .i64 0) := (blk_cell HV.out 2).trans rfl
    have f2 := blk_frozen HV.out 2
    have y2 : wc.cell? ⟨w.heap.size + 1, 2, none⟩ = some (.int .i64 q2) := pw_cell_below HBr.out ((blk_cell HQ.out 2).trans rfl)
    have r0 := eq_true (show (j0 : Int) < (N : Int) by have := HJ.out; omega)
    have r1 := eq_true (show (0 : Int) ≤ (j0 : Int) by omega)
    have r2 := eq_true (show (j1 : Int) < (N : Int) by have := HJ.out; omega)
    have r3 := eq_true (show (0 : Int) ≤ (j1 : Int) by omega)
    have hw1 := HW.out.1
    have hw2 := HW.out.2
    clear y0 y1 k0
    go_upto_region 7 with (fail)
    refine wp_region_still_tail 16 (by kernel_rfl) (by kernel_rfl) ?_
    simp only [List.take_succ_cons, List.take_zero, List.drop_succ_cons, List.drop_zero]
    repeat still_step
    still_call (PK2.out _)
    repeat still_step
    refine wpStill_nil ?_
    go_upto_region 8 with (fail)
    have hbw := below_drew (HBr.out.setCell (p := ⟨gy, 2, none⟩) HGY.out (.int .i64 m))
    have hv4 := blk_drew (blk_put HV.out 2 (.int .i64 m) rfl)
    replace HY := Aside0.mk (HY.out.below hbw)
    replace HB := Aside0.mk (below_step HB.out hbw)
    generalize (wc.setCell ⟨gy, 2, none⟩ (.int .i64 m)).drew = W4 at *
    have HV4 := Aside0.mk (show W4.heap[gy]? = some (.cells #[.int .i64 (j0 : Int), .int .i64 (j1 : Int), .int .i64 m] 35 (0, 0)) from hv4)
    have HC := Aside0.mk (And.intro HLAW.out.1 HLAW.out.2.1)
    have HLE := Aside0.mk HLAW.out.2.2.1
    have HIM := Aside0.mk HLAW.out.2.2.2
    clear x0 x1 x2 f2 y2 r0 r1 r2 r3 hw1 hw2 hb0 hb1 hbw hv4 HLAW HBX HBY HV HBr HGY HZ0 HZ1 HW HLA HQ PK0 PK1 PK2
    have k0 := HY.out.c0
    have k1 := HY.out.c1
    have x0 : W4.cell? ⟨gy, 0, none⟩ = some (.int .i64 (j0 : Int)) := (blk_cell HV4.out 0).trans rfl
    have x1 : W4.cell? ⟨gy, 1, none⟩ = some (.int .i64 (j1 : Int)) := (blk_cell HV4.out 1).trans rfl
    have x2 : W4.cell? ⟨gy, 2, none⟩ = some (.int .i64 m) := (blk_cell HV4.out 2).trans rfl
    obtain ⟨bi, hbi⟩ : ∃ b, impliedB N l ⟨j0, j1, m⟩ = b := ⟨_, rfl⟩
    have HBI := Aside0.mk hbi
    clear hbi
    go_wp2_with fail
    refine (impliedV HY.out.bw ⟨j0, j1, m⟩ _ bi rfl HBI.out).mono ?_
    rintro e w5 ⟨t5, rfl, _, h5⟩
    replace HY := Aside0.mk (HY.out.below h5)
    replace HB := Aside0.mk (below_step HB.out h5)
    replace HV4 := Aside0.mk (blk_below HV4.out h5)
    clear h5 k0 k1 x0 x1 x2
    have k0 := HY.out.c0
    have k1 := HY.out.c1
    go_wp2_with fail
    refine (closeV HY.out.bw (tblL N (distI N (bds l))) 0 (by unfold closeL; rw [HC.out.1, Int.toNat_natCast]; rfl) (by rw [HC.out.1]; rfl)).mono ?_
    rintro e w6 ⟨t6, rfl, r6, h6⟩
    replace HY := Aside0.mk (HY.out.below h6)
    replace HB := Aside0.mk (below_step HB.out h6)
    replace HV4 := Aside0.mk (blk_below HV4.out h6)
    obtain ⟨A6, k6, c6, rfl, hk6⟩ := r6.form
    have HT := Aside0.mk r6
    have HK6 := Aside0.mk (hk6.trans (tblL_len _ _))
    clear hk6 r6 h6 k0 k1
    obtain rfl := HK6.out
    clear HK6
    have k0 := HY.out.c0
    have k1 := HY.out.c1
    have x0 : w6.cell? ⟨gy, 0, none⟩ = some (.int .i64 (j0 : Int)) := (blk_cell HV4.out 0).trans rfl
    have x1 : w6.cell? ⟨gy, 1, none⟩ = some (.int .i64 (j1 : Int)) := (blk_cell HV4.out 1).trans rfl
    have x2 : w6.cell? ⟨gy, 2, none⟩ = some (.int .i64 m) := (blk_cell HV4.out 2).trans rfl
    go_wp2_with fail
    refine (withV HY.out.bw ⟨j0, j1, m⟩ (by have := HLEN.out; omega)).mono ?_
    rintro e w7 ⟨t7, rfl, r7, h7⟩
    replace HY := Aside0.mk (HY.out.below h7)
    replace HB := Aside0.mk (below_step HB.out h7)
    replace HT := Aside0.mk (HT.out.below h7)
    have HO := Aside0.mk r7
    clear r7 h7 k0 k1 x0 x1 x2 HV4
    go_wp2_with fail
    refine (closeV HO.out (tblL k6 (distI k6 (bds (l ++ [⟨j0, j1, m⟩])))) 0 (by unfold closeL; rw [HC.out.2, Int.toNat_natCast]; rfl) (by rw [HC.out.2]; rfl)).mono ?_
    rintro e w8 ⟨t8, rfl, r8, h8⟩
    replace HY := Aside0.mk (HY.out.below h8)
    replace HB := Aside0.mk (below_step HB.out h8)
    replace HT := Aside0.mk (HT.out.below h8)
    obtain ⟨A8, k8, c8, rfl, hk8⟩ := r8.form
    have HU := Aside0.mk r8
    have HK8 := Aside0.mk (hk8.trans (tblL_len _ _))
    clear hk8 r8 h8 HO
    obtain rfl := HK8.out
    clear HK8
    have k0 := HY.out.c0
    have k1 := HY.out.c1
    go_wp2_with fail
    clear k0 k1
    go_loopg [14] (k8 + 1) (fun kq v14 wq => ∃ (i : Nat), v14 = .int .i64 (i : Int) ∧ Aside0 (i + kq = k8 + 1 ∧ i ≤ k8) ∧ Aside0 (Below w8.heap.size w8 wq))
    case atStart => exact ⟨0, rfl, ⟨by omega, by omega⟩, ⟨Below.refl _ _⟩⟩
    case round =>
      obtain ⟨i, rfl, HK, HQ⟩ := hrel
      obtain ⟨wi, rfl⟩ : ∃ wi : World, wi = wr := ⟨_, rfl⟩
      have hi9 : i + 1 ≤ 9 := by have := HK.out; have := HR.out; omega
      have k0 := (HY.out.below HQ.out).c0
      by_cases hi : i < k8
      · have q1 := eq_true hi
        have q2 := eq_true (show (i : Int) < (k8 : Int) by omega)
        have q3 := eq_true (show (0 : Int) ≤ (i : Int) by omega)
        have HII := Aside0.mk hi
        clear hi
        go_wp2_with fail
        clear k0
        go_loopg [15] (k8 + 1) (fun kr v15 wq => ∃ (k : Nat), v15 = .int .i64 (k : Int) ∧ Aside0 (k + kr = k8 + 1 ∧ k ≤ k8) ∧ Aside0 (Below w8.heap.size w8 wq))
        case atStart => exact ⟨0, rfl, ⟨by omega, by omega⟩, HQ⟩
        case round =>
          clear HQ
          obtain ⟨k, rfl, HL, HQ⟩ := hrel
          have hk9 : k + 1 ≤ 9 := by have := HL.out; have := HR.out; omega
          have k0 := (HY.out.below HQ.out).c0
          by_cases hk : k < k8
          · have q4 := eq_true hk
            have q5 := eq_true (show (k : Int) < (k8 : Int) by omega)
            have q6 := eq_true (show (0 : Int) ≤ (k : Int) by omega)
            have HKK := Aside0.mk hk
            obtain ⟨a6, B6, r6, d6, rfl, t0, hr6, hI6⟩ := (HT.out.below HQ.out).row (show i < (tblL k8 (distI k8 (bds l))).length by rw [tblL_len]; exact HII.out)
            obtain ⟨a8, B8, r8, d8, rfl, t1, hr8, hI8⟩ := (HU.out.below HQ.out).row (show i < (tblL k8 (distI k8 (bds (l ++ [⟨j0, j1, m⟩])))).length by rw [tblL_len]; exact HII.out)
            rw [tbl_row_len HII.out] at hr6 hr8
            subst hr6 hr8
            obtain ⟨b6, rfl, t2⟩ := hI6.at (show k < _ by rw [tbl_row_len HII.out]; exact hk)
            obtain ⟨b8, rfl, t3⟩ := hI8.at (show k < _ by rw [tbl_row_len HII.out]; exact hk)
            rw [tbl_get HII.out hk] at t2 t3
            have hle := HLE.out i k HII.out hk
            generalize distI r8 (bds l) i k = e6 at t2 hle
            generalize distI r8 (bds (l ++ [⟨j0, j1, m⟩])) i k = e8 at t3 hle
            have g1 : decide (e6 < e8) = false := decide_eq_false (by omega)
            have g2 := eq_false (show ¬ e6 < e8 by omega)
            clear hI6 hI8 hle hk
            go_upto_region 19 with (fail)
            go_quiet (fail)
            go_wp2_with fail
            go_roundg (r8 - k)
            case measure => have := HL.out; have := HKK.out; omega
            case rel => exact ⟨k + 1, by go_num, ⟨by have := HL.out; have := HKK.out; omega, by have := HKK.out; omega⟩, ⟨by first | exact below_drew HQ.out | exact pw_below_drewN HQ.out _ | exact HQ.out⟩⟩
          · have q4 := eq_false hk
            have q5 := eq_false (show ¬ (k : Int) < (k8 : Int) by omega)
            clear hk
            go_wp2_with fail
            go_roundg (k8 - i)
            case measure => have := HK.out; have := HII.out; omega
            case rel => exact ⟨i + 1, by go_num, ⟨by have := HK.out; have := HII.out; omega, by have := HII.out; omega⟩, HQ⟩
      · have q1 := eq_false hi
        have q2 := eq_false (show ¬ (i : Int) < (k8 : Int) by omega)
        clear hi
        go_wp2_with fail
        refine (tablesV (HU.out.below HQ.out) (HT.out.below HQ.out) (by rw [tblL_len]; have := HR.out; omega) (fun r hr => by obtain ⟨q, _, rfl⟩ := List.mem_map.1 hr; rw [rowL_len]; have := HR.out; omega) bi (by rw [← HIM.out]; exact HBI.out)).mono ?_
        rintro e w9 ⟨rfl, h9⟩
        have HF := Aside0.mk (below_step (below_step HB.out HQ.out) h9)
        clear h9 k0
        cases bi with
        | true =>
          go_wp2_with fail
          go_ret
          exact ⟨rfl, HF.out⟩
        | false =>
          go_wp2_with fail
          go_ret
          exact ⟨rfl, HF.out⟩
end Go.Proofs.Ytlokeimfmbgigaa.Bk

set_option linter.unusedVariables false
namespace Go.Proofs.Ytlokeimfmbgigaa.Bk
open Go.RowKit Go.Shelf Go.Proofs.YtlokeimfmbgigaaW.PrintWords Go.Proofs.YtlokeimfmbgigaaW.PrintLast Go.Proofs.YtlokeimfmbgigaaW.PrintMore
open Go.Proofs.Ytlokeimfmbgigaa.Ref Go.Proofs.Ytlokeimfmbgigaa.Pl Go.Proofs.Ytlokeimfmbgigaa.Qs

theorem short0 (A : Option Addr) (k c : Nat) (hk : k ≤ c) (w : World) : Calls Try.prog 19 #[.slice A k c] w fun e w' => e = .returned (.slice A (min k 20) c) ∧ w' = w := by
  obtain ⟨m, hm⟩ : ∃ m : Nat, m = min k 20 := ⟨_, rfl⟩
  have hmin : (if 20 < (k : Int) then 20 else (k : Int)) = (m : Int) := by split <;> omega
  have q1 : (m : Int) ≤ (c : Int) := by omega
  have q2 : (0 : Int) ≤ (m : Int) := by omega
  have HM := Aside0.mk hm
  clear hm hk
  go_enter Try.func19, Try.ntmps19
  go_wp2_with fail
  go_ret
  rw [← HM.out]
  exact ⟨rfl, rfl⟩
theorem Iw.short {w : World} {ks : List Int} {A : Option Addr} {k c : Nat} (h : Iw w ks (.slice A k c)) : Iw w (ks.take 20) (.slice A (min k 20) c) := by
  obtain ⟨B, d, e, h1, h2⟩ := h
  simp only [Value.slice.injEq] at e
  obtain ⟨rfl, rfl, rfl⟩ := e
  have hl : (ks.take 20).length = min ks.length 20 := by rw [List.length_take]; omega
  refine ⟨A, c, by rw [hl], by rw [hl]; omega, ?_⟩
  have := C_prefix h2 (min ks.length 20) (by omega)
  rw [hl]
  rw [show ks.take 20 = ks.take (min ks.length 20) from ?_]
  · exact this
  · by_cases h6 : ks.length ≤ 20
    · rw [Nat.min_eq_left h6, List.take_of_length_le h6, List.take_of_length_le (Nat.le_refl _)]
    · rw [Nat.min_eq_right (by omega)]
set_option maxHeartbeats 4000000 in
set_option maxRecDepth 100000 in
theorem betweenImplies_calls (x : Nums) (v : Value) (q0 q1 q2 : Int) (ls : List Int) (u : Value) (w : World) (h : Nw w x v) (hq0 : I64 q0) (hq1 : I64 q1) (hq2 : I64 q2) (hls : Iw w ls u) (hli : ∀ k ∈ ls, I64 k) (hll : ls.length ≤ 9223372036854775807) :
    Calls Try.prog 8 #[v, .agg #[.int .i64 q0, .int .i64 q1, .int .i64 q2], u] w fun e w' => e = .returned (.bool true) ∧ Below w.heap.size w w' := by
  obtain ⟨s1, s2, rfl, hX⟩ := Xb.start h
  have hX2 := hX.below ((Below.refl _ _).alloc (Nat.le_refl _) (.cells #[.int .i64 q0, .int .i64 q1, .int .i64 q2] 26))
  have hQ := blk_new (w.alloc (.cells #[.int .i64 x.n, s1, s2, .int .i64 x.miss] 25)) (.cells #[.int .i64 q0, .int .i64 q1, .int .i64 q2] 26)
  rw [World.size_alloc] at hQ
  have HX := Aside0.mk hX2
  have HQ := Aside0.mk hQ
  have HI := Aside0.mk (And.intro hq0 (And.intro hq1 hq2))
  have HR := Aside0.mk (hidN_range x.n)
  obtain ⟨AL, kL, cL, rfl, hkL, hcL⟩ := hls.form
  clear hkL
  have HLL := Aside0.mk hls
  have HCL := Aside0.mk hcL
  clear h hX hX2 hQ hq0 hq1 hq2 hls hli hll hcL
  go_enter Try.func8, Try.ntmps8
  go_wp2_with fail
  refine (sane_calls _).mono ?_
  rintro e w1 ⟨rfl, h1⟩
  replace HX := Aside0.mk (HX.out.below h1)
  replace HQ := Aside0.mk (blk_below HQ.out h1)
  clear h1
  have k0 := HX.out.c0
  have k1 := HX.out.c1
  have k2 := HX.out.c2
  have k3 := HX.out.c3
  have f3 := HX.out.f3
  go_wp2_with fail
  have HZ := Aside0.mk HX.out.zero
  replace HQ := Aside0.mk (blk_far HQ.out (p := ⟨w.heap.size, 3, none⟩) (by simp only; omega) (.int .i64 0))
  generalize w1.setCell ⟨w.heap.size, 3, none⟩ (.int .i64 0) = W1 at *
  clear k0 k1 k2 k3 f3 HX
  refine (made_calls _ _ W1 HZ.out.nw).mono ?_
  rintro e w2 ⟨u2, rfl, r2, h2⟩
  have hmz : madeL ⟨x.n, x.hs, x.bs, 0⟩ = baseL x := lessL_zero _
  rw [hmz] at r2
  replace HZ := Aside0.mk (HZ.out.below h2)
  replace HQ := Aside0.mk (blk_below HQ.out h2)
  obtain ⟨AB, kb, cb, rfl, hkb, hY⟩ := r2.box (w0 := w) HZ.out.bel.size
  have HY := Aside0.mk hY
  replace HZ := Aside0.mk (HZ.out.below ((Below.refl _ w2).alloc (Nat.le_refl _) (.cells #[.int .i64 (hidN x.n : Int), .slice AB kb cb] 30)))
  replace HQ := Aside0.mk (blk_alloc HQ.out (.cells #[.int .i64 (hidN x.n : Int), .slice AB kb cb] 30))
  clear hY h2 r2 hmz hkb
  have k0 := HZ.out.c0
  have k1 := HZ.out.c1
  have k2 := HZ.out.c2
  have k3 := HZ.out.c3
  go_wp2_with fail
  refine (hiddenV HZ.out.nw).mono ?_
  rintro e w3 ⟨u3, rfl, r3, h3⟩
  have HB := Aside0.mk (below_step HZ.out.bel h3)
  replace HY := Aside0.mk (HY.out.below h3)
  replace HQ := Aside0.mk (blk_below HQ.out h3)
  obtain ⟨AH, kh, ch, rfl, hkh, _⟩ := r3.form
  have HH := Aside0.mk r3
  have HKH := Aside0.mk (show kh = hidN x.n from hkh.trans (hidL_len _ _))
  clear hkh r3 h3 k0 k1 k2 k3 HZ
  obtain rfl := HKH.out
  clear HKH
  -- the further bound
  have hp0 := pickP_range q0 (hidN x.n) (by have := HR.out; omega)
  have hp1 := pickP_range q1 (hidN x.n) (by have := HR.out; omega)
  have hp2 := pickP_range q2 60 (by omega)
  obtain ⟨j0, hj0⟩ : ∃ j : Nat, pickP q0 (hidN x.n) = (j : Int) := ⟨(pickP q0 (hidN x.n)).toNat, by omega⟩
  obtain ⟨j1, hj1⟩ : ∃ j : Nat, pickP q1 (hidN x.n) = (j : Int) := ⟨(pickP q1 (hidN x.n)).toNat, by omega⟩
  obtain ⟨p2, hj2⟩ : ∃ p, pickP q2 60 = p := ⟨_, rfl⟩
  rw [hj0] at hp0
  rw [hj1] at hp1
  rw [hj2] at hp2
  have HJ := Aside0.mk (And.intro (show j0 < hidN x.n by omega) (And.intro (show j1 < hidN x.n by omega) hp2))
  have PK0 := Aside0.mk (fun X => pickL1 q0 (hidN x.n) j0 X HI.out.1 (by have := HR.out; omega) hj0)
  have PK1 := Aside0.mk (fun X => pickL1 q1 (hidN x.n) j1 X HI.out.2.1 (by have := HR.out; omega) hj1)
  have PK2 := Aside0.mk (fun X => pickL1 q2 60 p2 X HI.out.2.2 (by omega) hj2)
  clear hp0 hp1 hp2 hj0 hj1 hj2
  obtain ⟨ah, rfl, hz0⟩ := HH.out.at (show j0 < (hidL x.n x.hs).length by rw [hidL_len]; exact HJ.out.1)
  obtain ⟨ad, e, hz1⟩ := HH.out.at (show j1 < (hidL x.n x.hs).length by rw [hidL_len]; exact HJ.out.2.1)
  obtain rfl : ah = ad := by injection e
  have hv0 := hidL_range x.n x.hs j0
  have hv1 := hidL_range x.n x.hs j1
  have HLAW := Aside0.mk (fun m hm => implies_all x HJ.out.1 HJ.out.2.1 p2 HJ.out.2.2 (m := m) hm)
  have HBA := Aside0.mk (base_allowed x)
  have HBC := Aside0.mk (base_close x)
  have HSL := Aside0.mk (show (solveL (hidN x.n) (baseL x)).length = hidN x.n from solveL_len (base_close x))
  have HSR := Aside0.mk (show ∀ j, j < hidN x.n → -16000000000 ≤ (solveL (hidN x.n) (baseL x)).getD j 0 ∧ (solveL (hidN x.n) (baseL x)).getD j 0 ≤ 0 from fun j hj => by rw [solveL_get (base_close x) hj]; exact sol_small (base_close x) hj)
  clear e
  have HLEN := Aside0.mk (show (baseL x).length ≤ 16 from by rw [baseL_len]; omega)
  generalize (hidL x.n x.hs).getD j0 0 = z0 at *
  generalize (hidL x.n x.hs).getD j1 0 = z1 at *
  generalize baseL x = l at *
  generalize hidN x.n = N at *
  obtain ⟨m, hm⟩ : ∃ m, m = z1 - z0 + p2 - 20 := ⟨_, rfl⟩
  replace HLAW := Aside0.mk (HLAW.out m hm)
  have hw1 : IntKind.i64.wrap (z1 - z0) = z1 - z0 := IntWalk.i64_in _ (by omega)
  have hw2 : IntKind.i64.wrap (z1 - z0 + p2) = z1 - z0 + p2 := IntWalk.i64_in _ (by have := HJ.out.2.2; omega)
  have hw3 : IntKind.i64.wrap (z1 - z0 + p2 - 20) = m := (IntWalk.i64_in _ (by have := HJ.out.2.2; omega)).trans hm.symm
  have HW := Aside0.mk (And.intro hw1 (And.intro hw2 hw3))
  have HZR := Aside0.mk (And.intro hv0 (And.intro hv1 hm))
  have HZ0 := Aside0.mk hz0
  have HZ1 := Aside0.mk hz1
  have y0 : w3.cell? ⟨w.heap.size + 1, 0, none⟩ = some (.int .i64 q0) := (blk_cell HQ.out 0).trans rfl
  have y1 : w3.cell? ⟨w.heap.size + 1, 1, none⟩ = some (.int .i64 q1) := (blk_cell HQ.out 1).trans rfl
  have k0 := HY.out.c0
  have HLA := Aside0.mk (show w.heap.size + 1 < w3.heap.size ∧ w2.heap.size < w3.heap.size from ⟨World.block_lt_of_cell? w3 _ y0, World.block_lt_of_cell? w3 _ k0⟩)
  clear hw1 hw2 hw3 hz0 hz1 hv0 hv1 hm
  generalize hg5 : w2.heap.size = g5 at *
  clear hg5
  go_upto_region 6 with (fail)
  go_cut [9] (fun s7 w' => ∃ gy, s7 = .pointer (some ⟨gy, 0, none⟩) ∧ Aside0 (w'.heap[gy]? = some (.cells #[.int .i64 (j0 : Int), .int .i64 (j1 : Int), .int .i64 0] 35 (0, 0))) ∧ Aside0 (Below w3.heap.size w3 w') ∧ Aside0 (w3.heap.size ≤ gy))
  case first =>
    go_region_held3 (fun w' => w'.cell? ⟨w.heap.size + 1, 0, none⟩ = some (.int .i64 q0) ∧ w'.cell? ⟨w.heap.size + 1, 1, none⟩ = some (.int .i64 q1) ∧ w'.cell? ⟨g5, 0, none⟩ = some (.int .i64 (N : Int)))
      (first | exact ⟨y0, y1, k0⟩ | exact ⟨cell_alloc_far y0 _, cell_alloc_far y1 _, cell_alloc_far k0 _⟩ | exact ⟨cell_far3 (cell_alloc_far y0 _) HLA.out.1 _ _ _, cell_far3 (cell_alloc_far y1 _) HLA.out.1 _ _ _, cell_far3 (cell_alloc_far k0 _) HLA.out.2 _ _ _⟩ | go_keep)
      (first | (go_at_call 13; (with_reducible refine (PK0.out _).mono ?_); rintro e wz ⟨rfl, rfl⟩) | (go_at_call 13; (with_reducible refine (PK1.out _).mono ?_); rintro e wz ⟨rfl, rfl⟩))
    all_goals
      go_wp2_with fail
      go_meet
      case rel => exact ⟨w3.heap.size, rfl, ⟨blk_drew (blk_new w3 _)⟩, ⟨below_drew ((Below.refl _ w3).alloc (Nat.le_refl _) _)⟩, ⟨Nat.le_refl _⟩⟩
  case rest =>
    obtain ⟨gy, rfl, HV, HBr, HGY⟩ := hcut
    have HBX := Aside0.mk (pw_cell_below HBr.out HZ0.out)
    have HBY := Aside0.mk (pw_cell_below HBr.out HZ1.out)
    have hb0 := HBX.out
    have hb1 := HBY.out
    have x0 : wc.cell? ⟨gy, 0, none⟩ = some (.int .i64 (j0 : Int)) := (blk_cell HV.out 0).trans rfl
    have x1 : wc.cell? ⟨gy, 1, none⟩ = some (.int .i64 (j1 : Int)) := (blk_cell HV.out 1).trans rfl
    have x2 : wc.cell? ⟨gy, 2, none⟩ = some (.int .i64 0) := (blk_cell HV.out 2).trans rfl
    have f2 := blk_frozen HV.out 2
    have y2 : wc.cell? ⟨w.heap.size + 1, 2, none⟩ = some (.int .i64 q2) := pw_cell_below HBr.out ((blk_cell HQ.out 2).trans rfl)
    have r0 := eq_true (show (j0 : Int) < (N : Int) by have := HJ.out; omega)
    have r1 := eq_true (show (0 : Int) ≤ (j0 : Int) by omega)
    have r2 := eq_true (show (j1 : Int) < (N : Int) by have := HJ.out; omega)
    have r3 := eq_true (show (0 : Int) ≤ (j1 : Int) by omega)
    have hw1 := HW.out.1
    have hw2 := HW.out.2.1
    have hw3 := HW.out.2.2
    clear y0 y1 k0
    go_upto_region 7 with (fail)
    refine wp_region_still_tail 17 (by kernel_rfl) (by kernel_rfl) ?_
    simp only [List.take_succ_cons, List.take_zero, List.drop_succ_cons, List.drop_zero]
    repeat still_step
    still_call (PK2.out _)
    repeat still_step
    refine wpStill_nil ?_
    go_upto_region 8 with (fail)
    have hbw := below_drew (HBr.out.setCell (p := ⟨gy, 2, none⟩) HGY.out (.int .i64 m))
    have hv4 := blk_drew (blk_put HV.out 2 (.int .i64 m) rfl)
    replace HY := Aside0.mk (HY.out.below hbw)
    replace HB := Aside0.mk (below_step HB.out hbw)
    replace HH := Aside0.mk (HH.out.below hbw)
    replace HZ0 := Aside0.mk (pw_cell_below hbw HZ0.out)
    replace HZ1 := Aside0.mk (pw_cell_below hbw HZ1.out)
    generalize (wc.setCell ⟨gy, 2, none⟩ (.int .i64 m)).drew = W4 at *
    have HV4 := Aside0.mk (show W4.heap[gy]? = some (.cells #[.int .i64 (j0 : Int), .int .i64 (j1 : Int), .int .i64 m] 35 (0, 0)) from hv4)
    have HL1 := Aside0.mk HLAW.out.1
    have HL2 := Aside0.mk HLAW.out.2.1
    have HL3 := Aside0.mk HLAW.out.2.2
    clear x0 x1 x2 f2 y2 r0 r1 r2 r3 hw1 hw2 hw3 hb0 hb1 hbw hv4 HLAW HBX HBY HV HBr HGY HW HLA HQ PK0 PK1 PK2
    have k0 := HY.out.c0
    have k1 := HY.out.c1
    have x0 : W4.cell? ⟨gy, 0, none⟩ = some (.int .i64 (j0 : Int)) := (blk_cell HV4.out 0).trans rfl
    have x1 : W4.cell? ⟨gy, 1, none⟩ = some (.int .i64 (j1 : Int)) := (blk_cell HV4.out 1).trans rfl
    have x2 : W4.cell? ⟨gy, 2, none⟩ = some (.int .i64 m) := (blk_cell HV4.out 2).trans rfl
    obtain ⟨bi, hbi⟩ : ∃ b, impliedB N l ⟨j0, j1, m⟩ = b := ⟨_, rfl⟩
    have HBI := Aside0.mk hbi
    clear hbi
    go_wp2_with fail
    refine (impliedV HY.out.bw ⟨j0, j1, m⟩ _ bi rfl HBI.out).mono ?_
    rintro e w5 ⟨t5, rfl, r5, h5⟩
    replace HY := Aside0.mk (HY.out.below h5)
    replace HB := Aside0.mk (below_step HB.out h5)
    replace HH := Aside0.mk (HH.out.below h5)
    replace HZ0 := Aside0.mk (pw_cell_below h5 HZ0.out)
    replace HZ1 := Aside0.mk (pw_cell_below h5 HZ1.out)
    replace HV4 := Aside0.mk (blk_below HV4.out h5)
    have HCH := Aside0.mk r5
    clear h5 r5 k0 k1 x0 x1 x2
    have k0 := HY.out.c0
    have k1 := HY.out.c1
    go_wp2_with fail
    refine (solveV HY.out.bw (solveL N l) 0 rfl (by rw [HBC.out]; rfl)).mono ?_
    rintro e w6 ⟨t6, rfl, r6, h6⟩
    replace HY := Aside0.mk (HY.out.below h6)
    replace HB := Aside0.mk (below_step HB.out h6)
    replace HH := Aside0.mk (HH.out.below h6)
    replace HZ0 := Aside0.mk (pw_cell_below h6 HZ0.out)
    replace HZ1 := Aside0.mk (pw_cell_below h6 HZ1.out)
    replace HV4 := Aside0.mk (blk_below HV4.out h6)
    replace HCH := Aside0.mk (HCH.out.below h6)
    obtain ⟨AS, kS, cS, rfl, hkS, _⟩ := r6.form
    have HS := Aside0.mk r6
    have HKS := Aside0.mk (hkS.trans HSL.out)
    clear hkS r6 h6 k0 k1
    obtain rfl := HKS.out
    clear HKS
    have k0 := HY.out.c0
    have k1 := HY.out.c1
    go_wp2_with fail
    refine (allowedV HY.out.bw HH.out true HBA.out).mono ?_
    rintro e w7 ⟨rfl, h7⟩
    replace HY := Aside0.mk (HY.out.below h7)
    replace HB := Aside0.mk (below_step HB.out h7)
    replace HZ0 := Aside0.mk (pw_cell_below h7 HZ0.out)
    replace HZ1 := Aside0.mk (pw_cell_below h7 HZ1.out)
    replace HV4 := Aside0.mk (blk_below HV4.out h7)
    replace HCH := Aside0.mk (HCH.out.below h7)
    replace HS := Aside0.mk (HS.out.below h7)
    clear h7 k0 k1 HH HBA
    obtain ⟨aS, rfl, s0⟩ := HS.out.at (show j0 < (solveL kS l).length by rw [HSL.out]; exact HJ.out.1)
    obtain ⟨ad, e, s1⟩ := HS.out.at (show j1 < (solveL kS l).length by rw [HSL.out]; exact HJ.out.2.1)
    obtain rfl : aS = ad := by injection e
    have hs0 := HSR.out j0 HJ.out.1
    have hs1 := HSR.out j1 HJ.out.2.1
    generalize (solveL kS l).getD j0 0 = σ0 at *
    generalize (solveL kS l).getD j1 0 = σ1 at *
    have z0c := HZ0.out
    have z1c := HZ1.out
    have x0 : w7.cell? ⟨gy, 0, none⟩ = some (.int .i64 (j0 : Int)) := (blk_cell HV4.out 0).trans rfl
    have x1 : w7.cell? ⟨gy, 1, none⟩ = some (.int .i64 (j1 : Int)) := (blk_cell HV4.out 1).trans rfl
    have x2 : w7.cell? ⟨gy, 2, none⟩ = some (.int .i64 m) := (blk_cell HV4.out 2).trans rfl
    have r0 := eq_true (show (j0 : Int) < (kS : Int) by have := HJ.out; omega)
    have r1 := eq_true (show (0 : Int) ≤ (j0 : Int) by omega)
    have r2 := eq_true (show (j1 : Int) < (kS : Int) by have := HJ.out; omega)
    have r3 := eq_true (show (0 : Int) ≤ (j1 : Int) by omega)
    have hw1 : IntKind.i64.wrap (z1 - z0) = z1 - z0 := IntWalk.i64_in _ (by have := HZR.out; omega)
    have hw2 : IntKind.i64.wrap (σ1 - σ0) = σ1 - σ0 := IntWalk.i64_in _ (by omega)
    obtain ⟨kp, hkp⟩ : ∃ b : Bool, (decide (z1 - z0 ≤ m) && decide (σ1 - σ0 ≤ m)) = b := ⟨_, rfl⟩
    have HKP := Aside0.mk hkp
    clear e hs0 hs1 hkp
    go_upto_region 12 with (fail)
    go_cut [14] (fun s14 w' => s14 = .bool kp ∧ Aside0 (Below w7.heap.size w7 w'))
    case first =>
      by_cases c1 : z1 - z0 ≤ m
      · have d1 : decide (z1 - z0 ≤ m) = true := decide_eq_true c1
        have d2 := eq_true c1
        by_cases c2 : σ1 - σ0 ≤ m
        · have d3 : decide (σ1 - σ0 ≤ m) = true := decide_eq_true c2
          have d4 := eq_true c2
          have HK1 := Aside0.mk (show kp = true by rw [← HKP.out, d1, d3]; rfl)
          clear c1 c2
          go_quiet (fail)
          go_wp2_with fail
          go_meet
          case rel => exact ⟨by rw [HK1.out], ⟨pw_below_drewN (Below.refl _ _) _⟩⟩
        · have d3 : decide (σ1 - σ0 ≤ m) = false := decide_eq_false c2
          have d4 := eq_false c2
          have HK1 := Aside0.mk (show kp = false by rw [← HKP.out, d1, d3]; rfl)
          clear c1 c2
          go_quiet (fail)
          go_wp2_with fail
          go_meet
          case rel => exact ⟨by rw [HK1.out], ⟨pw_below_drewN (Below.refl _ _) _⟩⟩
      · have d1 : decide (z1 - z0 ≤ m) = false := decide_eq_false c1
        have d2 := eq_false c1
        have HK1 := Aside0.mk (show kp = false by rw [← HKP.out, d1]; rfl)
        clear c1
        go_quiet (fail)
        go_wp2_with fail
        go_meet
        case rel => exact ⟨by rw [HK1.out], ⟨pw_below_drewN (Below.refl _ _) _⟩⟩
    case rest =>
      obtain ⟨rfl, HC7⟩ := hcut
      replace HB := Aside0.mk (below_step HB.out HC7.out)
      have HYc := Aside0.mk (HY.out.below HC7.out)
      have HVc := Aside0.mk (blk_below HV4.out HC7.out)
      have HCc := Aside0.mk (HCH.out.below HC7.out)
      have HLs := Aside0.mk (show Iw wc (ls.take 20) (.slice AL (min kL 20) cL) from (HLL.out.below HB.out).short)
      obtain ⟨ck, hck⟩ : ∃ b, checkChainB kS l ⟨j0, j1, m⟩ (ls.take 20) = b := ⟨_, rfl⟩
      have HCK := Aside0.mk hck
      have HCLN := Aside0.mk (show (impL kS l ⟨j0, j1, m⟩).length ≤ 100 from by
        unfold impL
        split
        · rw [List.length_map]; unfold impK; rw [chainK_len]; have := leastM_le l ((j0 : Int)).toNat ((j1 : Int)).toNat m; simp only; omega
        · simp)
      clear hck x0 x1 x2 r0 r1 r2 r3 hw1 hw2 z0c z1c s0 s1 HY HV4 HCH HC7 HLL
      have d0 := sub_cell (W := wc) HYc.out.c0
      have d1 := sub_cell (W := wc) HYc.out.c1
      have y0 := sub_cell (W := wc) (p := ⟨gy, 0, none⟩) (v := .int .i64 (j0 : Int)) ((blk_cell HVc.out 0).trans rfl)
      have y1 := sub_cell (W := wc) (p := ⟨gy, 1, none⟩) (v := .int .i64 (j1 : Int)) ((blk_cell HVc.out 1).trans rfl)
      have y2 := sub_cell (W := wc) (p := ⟨gy, 2, none⟩) (v := .int .i64 m) ((blk_cell HVc.out 2).trans rfl)
      cases bi with
      | true =>
        have hkt : kp = true := by
          obtain ⟨g1, g2, _⟩ := HL2.out HBI.out
          rw [← HKP.out, decide_eq_true g1, decide_eq_true g2]; rfl
        rw [hkt]
        clear hkt
        cases ck with
        | true =>
          go_upto_region 13 with (fail)
          refine wp_region_sub (by kernel_rfl) (by kernel_rfl) ?_
          repeat (go_big_quiet_step (first | (go_at_call 19; exact Calls.sub_of_same (short0 AL kL cL HCL.out _)) | (go_at_call 33; exact Calls.sub_of (checkChainV (HYc.out.bw.below (Subtype.property _)) ⟨j0, j1, m⟩ ((HLs.out.below (Subtype.property _))) (by rw [List.length_take]; omega) _ HCK.out))))
          refine wpQuiet_nil ?_
          refine sub_intro fun w9 h9 => ?_
          replace HB := Aside0.mk (below_step HB.out h9)
          replace HYc := Aside0.mk (HYc.out.below h9)
          replace HVc := Aside0.mk (blk_below HVc.out h9)
          replace HCc := Aside0.mk (HCc.out.below h9)
          clear h9 d0 d1 y0 y1 y2
          have k0 := HYc.out.c0
          have k1 := HYc.out.c1
          have x0 : w9.cell? ⟨gy, 0, none⟩ = some (.int .i64 (j0 : Int)) := (blk_cell HVc.out 0).trans rfl
          have x1 : w9.cell? ⟨gy, 1, none⟩ = some (.int .i64 (j1 : Int)) := (blk_cell HVc.out 1).trans rfl
          have x2 : w9.cell? ⟨gy, 2, none⟩ = some (.int .i64 m) := (blk_cell HVc.out 2).trans rfl
          go_wp2_with fail
          refine (checkChainV HYc.out.bw ⟨j0, j1, m⟩ HCc.out (by have := HCLN.out; omega) true (HL2.out HBI.out).2.2).mono ?_
          rintro e w10 ⟨rfl, h10⟩
          have HF := Aside0.mk (below_step HB.out h10)
          clear h10 k0 k1 x0 x1 x2
          go_wp2_with fail
          go_ret
          exact ⟨rfl, HF.out⟩
        | false =>
          go_upto_region 13 with (fail)
          refine wp_region_sub (by kernel_rfl) (by kernel_rfl) ?_
          repeat (go_big_quiet_step (first | (go_at_call 19; exact Calls.sub_of_same (short0 AL kL cL HCL.out _)) | (go_at_call 33; exact Calls.sub_of (checkChainV (HYc.out.bw.below (Subtype.property _)) ⟨j0, j1, m⟩ ((HLs.out.below (Subtype.property _))) (by rw [List.length_take]; omega) _ HCK.out))))
          refine wpQuiet_nil ?_
          refine sub_intro fun w9 h9 => ?_
          replace HB := Aside0.mk (below_step HB.out h9)
          replace HYc := Aside0.mk (HYc.out.below h9)
          replace HVc := Aside0.mk (blk_below HVc.out h9)
          replace HCc := Aside0.mk (HCc.out.below h9)
          clear h9 d0 d1 y0 y1 y2
          have k0 := HYc.out.c0
          have k1 := HYc.out.c1
          have x0 : w9.cell? ⟨gy, 0, none⟩ = some (.int .i64 (j0 : Int)) := (blk_cell HVc.out 0).trans rfl
          have x1 : w9.cell? ⟨gy, 1, none⟩ = some (.int .i64 (j1 : Int)) := (blk_cell HVc.out 1).trans rfl
          have x2 : w9.cell? ⟨gy, 2, none⟩ = some (.int .i64 m) := (blk_cell HVc.out 2).trans rfl
          go_wp2_with fail
          refine (checkChainV HYc.out.bw ⟨j0, j1, m⟩ HCc.out (by have := HCLN.out; omega) true (HL2.out HBI.out).2.2).mono ?_
          rintro e w10 ⟨rfl, h10⟩
          have HF := Aside0.mk (below_step HB.out h10)
          clear h10 k0 k1 x0 x1 x2
          go_wp2_with fail
          go_ret
          exact ⟨rfl, HF.out⟩
      | false =>
        cases ck with
        | true => exact absurd ((HL1.out _ HCK.out).symm.trans HBI.out) (by decide)
        | false =>
          go_upto_region 13 with (fail)
          refine wp_region_sub (by kernel_rfl) (by kernel_rfl) ?_
          repeat (go_big_quiet_step (first | (go_at_call 19; exact Calls.sub_of_same (short0 AL kL cL HCL.out _)) | (go_at_call 33; exact Calls.sub_of (checkChainV (HYc.out.bw.below (Subtype.property _)) ⟨j0, j1, m⟩ ((HLs.out.below (Subtype.property _))) (by rw [List.length_take]; omega) _ HCK.out))))
          refine wpQuiet_nil ?_
          refine sub_intro fun w9 h9 => ?_
          replace HB := Aside0.mk (below_step HB.out h9)
          replace HYc := Aside0.mk (HYc.out.below h9)
          replace HVc := Aside0.mk (blk_below HVc.out h9)
          replace HCc := Aside0.mk (HCc.out.below h9)
          clear h9 d0 d1 y0 y1 y2
          have k0 := HYc.out.c0
          have k1 := HYc.out.c1
          have x0 : w9.cell? ⟨gy, 0, none⟩ = some (.int .i64 (j0 : Int)) := (blk_cell HVc.out 0).trans rfl
          have x1 : w9.cell? ⟨gy, 1, none⟩ = some (.int .i64 (j1 : Int)) := (blk_cell HVc.out 1).trans rfl
          have x2 : w9.cell? ⟨gy, 2, none⟩ = some (.int .i64 m) := (blk_cell HVc.out 2).trans rfl
          obtain ⟨g1, g2, g3, g4⟩ := HL3.out HBI.out
          rw [g1] at HCc
          obtain ⟨AC, kC, cC, rfl, hkC, _⟩ := HCc.out.form
          obtain rfl : kC = 0 := hkC
          have G2 := Aside0.mk g2
          have G3 := Aside0.mk g3
          have G4 := Aside0.mk g4
          have hmr := HZR.out
          have hw1 : IntKind.i64.wrap (-m) = -m := IntWalk.i64_in _ (by have := HJ.out.2.2; omega)
          have hw2 : IntKind.i64.wrap (-m - 1) = -m - 1 := IntWalk.i64_in _ (by have := HJ.out.2.2; omega)
          clear g1 g2 g3 g4 hmr HL1 HL2 HL3
          go_wp2_with fail
          refine (withV HYc.out.bw ⟨j1, j0, -m - 1⟩ (by have := HLEN.out; omega)).mono ?_
          rintro e w10 ⟨u10, rfl, r10, h10⟩
          replace HB := Aside0.mk (below_step HB.out h10)
          replace HYc := Aside0.mk (HYc.out.below h10)
          replace HVc := Aside0.mk (blk_below HVc.out h10)
          obtain ⟨AO, kO, cO, rfl, hkO, hO⟩ := r10.box (w0 := w) HB.out.size
          have HO := Aside0.mk hO
          have hb := (Below.refl _ w10).alloc (Nat.le_refl _) (.cells #[.int .i64 (kS : Int), .slice AO kO cO] 30)
          replace HB := Aside0.mk (below_step HB.out hb)
          replace HYc := Aside0.mk (HYc.out.below hb)
          replace HVc := Aside0.mk (blk_below HVc.out hb)
          clear hO hkO hb r10 h10 k0 k1 x0 x1 x2 hw1 hw2
          have k0 := HO.out.c0
          have k1 := HO.out.c1
          go_wp2_with fail
          refine (solveV HO.out.bw (solveL kS (l ++ [⟨j1, j0, -m - 1⟩])) 0 rfl (by rw [G2.out]; rfl)).mono ?_
          rintro e w11 ⟨t11, rfl, r11, h11⟩
          replace HB := Aside0.mk (below_step HB.out h11)
          replace HYc := Aside0.mk (HYc.out.below h11)
          replace HVc := Aside0.mk (blk_below HVc.out h11)
          obtain ⟨AT, kT, cT, rfl, hkT, _⟩ := r11.form
          have HT := Aside0.mk r11
          have hlen := solveL_len G2.out
          obtain rfl : kT = kS := hkT.trans hlen
          obtain ⟨aT, rfl, s0⟩ := r11.at (show j0 < (solveL kT (l ++ [⟨j1, j0, -m - 1⟩])).length by rw [hlen]; exact HJ.out.1)
          obtain ⟨ad, e, s1⟩ := r11.at (show j1 < (solveL kT (l ++ [⟨j1, j0, -m - 1⟩])).length by rw [hlen]; exact HJ.out.2.1)
          obtain rfl : aT = ad := by injection e
          have hs0 : -16000000000 ≤ (solveL kT (l ++ [⟨j1, j0, -m - 1⟩])).getD j0 0 ∧ (solveL kT (l ++ [⟨j1, j0, -m - 1⟩])).getD j0 0 ≤ 0 := by rw [solveL_get G2.out HJ.out.1]; exact sol_small G2.out HJ.out.1
          have hs1 : -16000000000 ≤ (solveL kT (l ++ [⟨j1, j0, -m - 1⟩])).getD j1 0 ∧ (solveL kT (l ++ [⟨j1, j0, -m - 1⟩])).getD j1 0 ≤ 0 := by rw [solveL_get G2.out HJ.out.2.1]; exact sol_small G2.out HJ.out.2.1
          have g4 := G4.out
          generalize (solveL kT (l ++ [⟨j1, j0, -m - 1⟩])).getD j0 0 = τ0 at s0 hs0 g4
          generalize (solveL kT (l ++ [⟨j1, j0, -m - 1⟩])).getD j1 0 = τ1 at s1 hs1 g4
          have hw1 : IntKind.i64.wrap (τ1 - τ0) = τ1 - τ0 := IntWalk.i64_in _ (by omega)
          have g5 := eq_true g4
          have g6 : decide (m < τ1 - τ0) = true := decide_eq_true g4
          have r0 := eq_true (show (j0 : Int) < (kT : Int) by have := HJ.out; omega)
          have r1 := eq_true (show (0 : Int) ≤ (j0 : Int) by omega)
          have r2 := eq_true (show (j1 : Int) < (kT : Int) by have := HJ.out; omega)
          have r3 := eq_true (show (0 : Int) ≤ (j1 : Int) by omega)
          clear e h11 r11 hkT hlen hs0 hs1 g4 k0 k1
          have d0 := sub_cell (W := w11) HYc.out.c0
          have d1 := sub_cell (W := w11) HYc.out.c1
          have y0 := sub_cell (W := w11) (p := ⟨gy, 0, none⟩) (v := .int .i64 (j0 : Int)) ((blk_cell HVc.out 0).trans rfl)
          have y1 := sub_cell (W := w11) (p := ⟨gy, 1, none⟩) (v := .int .i64 (j1 : Int)) ((blk_cell HVc.out 1).trans rfl)
          have y2 := sub_cell (W := w11) (p := ⟨gy, 2, none⟩) (v := .int .i64 m) ((blk_cell HVc.out 2).trans rfl)
          have y3 := sub_cell (W := w11) s0
          have y4 := sub_cell (W := w11) s1
          go_upto_region 19 with (fail)
          refine wp_region_sub (by kernel_rfl) (by kernel_rfl) ?_
          repeat (go_big_quiet_step (first | (go_at_call 18; exact Calls.sub_of (allowedV (HYc.out.bw.below (Subtype.property _)) (HT.out.below (Subtype.property _)) true G3.out))))
          refine wpQuiet_nil ?_
          refine sub_intro fun w12 h12 => ?_
          have HF := Aside0.mk (below_step HB.out h12)
          clear h12
          go_wp2_with fail
          go_ret
          exact ⟨rfl, HF.out⟩
end Go.Proofs.Ytlokeimfmbgigaa.Bk

namespace Go.Proofs.Ytlokeimfmbgigaa.betweenImplies
open Go.ChangeShapes Go.WideShapes Go.ChangeAt Go.RowKit
open Go.ChangeMaps (open_string shut_string)
set_option linter.unusedVariables false

theorem own : ownKnob Try.prog.godebug = none := by kernel_rfl
theorem laidOut : laidOutB Try.prog = true := by kernel_rfl

set_option maxRecDepth 100000 in
theorem lifted (os : Os) (started : os.Started) (H : Type) (enc : TypeId × Value → H) :
    ReturnsInHanded {} Try.checked os 8 .any (Rows.betweenImpliesSpec.pre6 enc Try.prog Try.f8 Rows.betweenImpliesRow.domain false) (Rows.betweenImpliesSpec.post enc Try.prog Try.f8 false true false false) := by
  refine returnsInHanded_of_change (C := Try.checked) own started (by kernel_rfl) Try.func8
    (ChangeSpec.witness6 (enc := enc) (C := Try.checked) false ⟨#[], #[.agg #[.int .i64 0, .slice none 0 0, .slice none 0 0, .int .i64 0], .agg #[.int .i64 0, .int .i64 0, .int .i64 0], .slice none 0 0], []⟩ 8 (by kernel_rfl) (by kernel_rfl) (by kernel_rfl) (by kernel_rfl)) ?_
  intro W base args ds gs before hval0 hW hcnd _
  have hval : ∀ (j : Nat) t v, Try.f8.params[j]? = some t → args[j]? = some v → Value.okWide Try.prog W .any base t v := hval0
  have hW' := hW
  obtain ⟨p, q, hA0, hV, rfl, hfz, hnd⟩ := hW
  have hA : DataW.TrodAll enc Try.prog W 0 (fun _ => true) true Try.f8.params.toList args.toList ds p := hA0
  rw [Try.params8] at hA hval
  obtain ⟨v0, vs0, d0, ds0, p0, q0, hargs, rfl, rfl, h0, r0⟩ := trodAll_cons hA
  obtain ⟨v1, vs1, d1, ds1, p1, q1, rfl, rfl, rfl, h1, r1⟩ := trodAll_cons r0
  obtain ⟨v2, vs2, d2, ds2, p2, q2, rfl, rfl, rfl, h2, r2⟩ := trodAll_cons r1
  obtain ⟨rfl, rfl, rfl⟩ := trodAll_nil r2
  obtain rfl : args = #[v0, v1, v2] := by cases args; simp_all
  obtain ⟨rfl, rfl⟩ := trodVars_none hV
  have k0 := h0
  have lt0 : ∀ x ∈ p0, x.block < W.heap.size := by obtain ⟨m, hm⟩ := k0; exact DataW.trod_lt m _ _ _ hm
  obtain ⟨x0, w0⟩ := Bk.open_nums (hval 0 25 v0 rfl rfl) h0
  have k1 := h1
  have lt1 : ∀ x ∈ p1, x.block < W.heap.size := by obtain ⟨m, hm⟩ := k1; exact DataW.trod_lt m _ _ _ hm
  obtain ⟨a1, b1, e1, rfl, w1, u1, z1⟩ := Bk.open_three (hval 1 26 v1 rfl rfl) h1
  have k2 := h2
  have lt2 : ∀ x ∈ p2, x.block < W.heap.size := by obtain ⟨m, hm⟩ := k2; exact DataW.trod_lt m _ _ _ hm
  obtain ⟨x2, w2, u2, z2⟩ := Bk.open_ints (hval 2 22 v2 rfl rfl) h2
  clear hA0 hval0
  refine (Bk.betweenImplies_calls x0 v0 a1 b1 e1 x2 v2 W w0 w1 u1 z1 w2 u2 z2).mono fun e W' ⟨he, bel⟩ => ?_
  subst he
  exact ⟨_, rfl, _, _, _, [], _, [], hW', trodAll_mk1 (shut_bool Try.underlying4 _), (trodAll_cons_mk (Below.trod laidOut (by kernel_rfl) (of_decide_eq_true (by kernel_rfl)) k0 bel lt0) (trodAll_cons_mk (Below.trod laidOut (by kernel_rfl) (of_decide_eq_true (by kernel_rfl)) k1 bel lt1) (trodAll_cons_mk (Below.trod laidOut (by kernel_rfl) (of_decide_eq_true (by kernel_rfl)) k2 bel lt2) trodAll_mk0))), rfl, bel.frame _, fun h => by cases h⟩

theorem over : Rows.betweenImpliesRow.holds Try.pinned (OpenSpec.ofChange Rows.betweenImpliesSpec) :=
  OpenClaim.holds_of_wide 8 Try.f8 rfl rfl rfl rfl rfl rfl rfl ⟨rfl, rfl, rfl, rfl, rfl⟩ rfl rfl rfl rfl rfl (by kernel_rfl) Try.func8 (by kernel_rfl)
    (of_decide_eq_true (by kernel_rfl)) (by unfold Func.isWrapper; first | (rw [if_pos (by decide +kernel)]; kernel_rfl) | (rw [if_neg (by decide +kernel)]; exact ⟨rfl, rfl⟩))
    (fun os started H enc _ => lifted os started H enc)

theorem proved : Rows.BetweenImpliesSaid := over
#print axioms proved
end Go.Proofs.Ytlokeimfmbgigaa.betweenImplies
