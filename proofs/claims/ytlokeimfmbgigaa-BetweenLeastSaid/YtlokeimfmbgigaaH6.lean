/- Proved: the law BetweenLeast of package between returns true at every input, and changes none; no condition. -/
import Derived.Test.YtlokeimfmbgigaaZ7
import Derived.BigQuiet
import Derived.Deep.QuietTactic
import Derived.Deep.RegionHeld3
import Derived.Test.YtlokeimfmbgigaaRows
import Derived.WalkKit
import Derived.ProofKit
import Derived.OpenShut
import Derived.ShutString
import Derived.ChangeOld
import Derived.Below
set_option linter.unusedVariables false
set_option linter.unusedSimpArgs false
set_option linter.unusedVariables false
set_option linter.unusedSectionVars false
namespace Go.Proofs.Ytlokeimfmbgigaa.Pl
open Go.RowKit Go.Proofs.YtlokeimfmbgigaaW.PrintWords
open Go.Proofs.Ytlokeimfmbgigaa.Ref Go.Proofs.Ytlokeimfmbgigaa.Bk
theorem bds_snoc (l : List S35) (v : S35) : bds (l ++ [v]) = bds l ++ [(v.f0.toNat, v.f1.toNat, v.f2)] := by simp [bds]
theorem valid_snoc {n : Nat} {l : List S35} {v : S35} (hv : validB n l = true) (hl : l.length ≤ 59) (hb : boundB n v = true) : validB n (l ++ [v]) = true := by
  unfold validB at hv ⊢
  simp only [Bool.and_eq_true, decide_eq_true_eq, List.all_append, List.all_cons, List.all_nil, Bool.and_true, List.length_append, List.length_cons, List.length_nil] at hv ⊢
  exact ⟨⟨hv.1.1, by omega⟩, hv.2, hb⟩
theorem bound_of {n : Nat} {v : S35} (h0 : 0 ≤ v.f0 ∧ v.f0 < n) (h1 : 0 ≤ v.f1 ∧ v.f1 < n) (h2 : -1000000000 ≤ v.f2 ∧ v.f2 ≤ 1000000000) : boundB n v = true := by
  unfold boundB
  simp only [Bool.and_eq_true, decide_eq_true_eq]
  omega
theorem bound_out {n : Nat} {v : S35} (h : boundB n v = true) : (0 ≤ v.f0 ∧ v.f0 < n) ∧ (0 ≤ v.f1 ∧ v.f1 < n) ∧ -1000000000 ≤ v.f2 ∧ v.f2 ≤ 1000000000 := by
  unfold boundB at h
  simp only [Bool.and_eq_true, decide_eq_true_eq] at h
  omega
/-- A situation allowed by the bounds and the further one is allowed by both. -/
theorem allowed_snoc {n : Nat} {l : List S35} {v : S35} {x : List Int} (h : allowedB n l x = true) (hl : l.length ≤ 59) (hb : boundB n v = true) (hk : x.getD v.f1.toNat 0 - x.getD v.f0.toNat 0 ≤ v.f2) : allowedB n (l ++ [v]) x = true := by
  unfold allowedB at h ⊢
  simp only [Bool.and_eq_true, List.all_append, List.all_cons, List.all_nil, Bool.and_true] at h ⊢
  refine ⟨⟨⟨valid_snoc h.1.1.1 hl hb, h.1.1.2⟩, h.1.2⟩, h.2, ?_⟩
  unfold keepB
  rw [decide_eq_true_eq]
  exact hk
theorem tbl_get {n : Nat} {D : Ti} {i k : Nat} (hi : i < n) (hk : k < n) : ((tblL n D).getD i []).getD k 0 = D i k := by
  simp [tblL, rowL, List.getD_eq_getElem?_getD, hi, hk]
section
variable {n : Nat} {l : List S35} {v : S35} (h : closeB n l = true) (h' : closeB n (l ++ [v]) = true)
include h h'
theorem more_le {i k : Nat} (hi : i < n) (hk : k < n) : distI n (bds (l ++ [v])) i k ≤ distI n (bds l) i k := by
  rcases dist_cases (close_valid h) (close_fine h) hi hk with ⟨_, e⟩ | ⟨x, e1, e2, e3⟩
  · rw [e]
    rcases dist_cases (close_valid h') (close_fine h') hi hk with ⟨_, e'⟩ | ⟨y, _, e', hy⟩
    · rw [e']; exact Int.le_refl _
    · rw [e']; unfold Far; omega
  · rw [e2]
    obtain ⟨y, hy, hle⟩ := (close_least h').2 i k x hi hk (((close_least h).1 i k x e1).sub fun e he => by rw [bds_snoc]; exact List.mem_append_left _ he)
    rw [distI_eq (close_valid h'), hy]
    exact hle
theorem more_same (hb : boundB n v = true) (hle : distI n (bds l) v.f0.toNat v.f1.toNat ≤ v.f2) {i k : Nat} (hi : i < n) (hk : k < n) : distI n (bds (l ++ [v])) i k = distI n (bds l) i k := by
  obtain ⟨b0, b1, b2⟩ := bound_out hb
  have hf : v.f0.toNat < n := by omega
  have ht : v.f1.toNat < n := by omega
  have hw : LeO (distT n (bds l) v.f0.toNat v.f1.toNat) v.f2 := by
    rcases dist_cases (close_valid h) (close_fine h) hf ht with ⟨_, e⟩ | ⟨x, e1, e2, _⟩
    · rw [e] at hle; unfold Far at hle; omega
    · rw [e2] at hle; exact ⟨x, e1, hle⟩
  have hL := close_least h
  have hL' : Least (bds (l ++ [v])) n (distT n (bds l)) := by
    refine ⟨fun a b x hx => (hL.1 a b x hx).sub fun e he => by rw [bds_snoc]; exact List.mem_append_left _ he, fun a b s ha hb hc => ?_⟩
    rw [bds_snoc] at hc
    obtain ⟨s', h1, h2⟩ := hc.more hL (valid_in (close_valid h)) hf ht hw hb ha
    exact (hL.2 a b s' ha hb h1).mono h2
  rw [distI_eq (close_valid h), distI_eq (close_valid h'), (close_least h').same hL' hi hk]
theorem more_not (hb : boundB n v = true) (hlt : v.f2 < distI n (bds l) v.f0.toNat v.f1.toNat) : distI n (bds (l ++ [v])) v.f0.toNat v.f1.toNat ≠ distI n (bds l) v.f0.toNat v.f1.toNat := by
  obtain ⟨b0, b1, b2⟩ := bound_out hb
  have hf : v.f0.toNat < n := by omega
  have ht : v.f1.toNat < n := by omega
  obtain ⟨y, hy, hle⟩ := (close_least h').2 _ _ v.f2 hf ht (Ch.one (by rw [bds_snoc]; exact List.mem_append_right _ (List.mem_singleton.2 rfl)))
  rw [distI_eq (close_valid h'), hy]
  show y ≠ _
  omega
theorem implied_iff (hb : boundB n v = true) : impliedB n l v = decide (distI n (bds l) v.f0.toNat v.f1.toNat ≤ v.f2) := by
  unfold impliedB
  have hc := h
  unfold closeB at hc
  rw [Bool.and_eq_true] at hc
  rw [hc.1, hb, hc.2, Int.toNat_natCast]
  rfl
theorem more_law (hb : boundB n v = true) : impliedB n l v = decide (tblL n (distI n (bds (l ++ [v]))) = tblL n (distI n (bds l))) := by
  rw [implied_iff h h' hb]
  obtain ⟨b0, b1, b2⟩ := bound_out hb
  by_cases hle : distI n (bds l) v.f0.toNat v.f1.toNat ≤ v.f2
  · rw [decide_eq_true hle, decide_eq_true]
    refine List.map_congr_left fun i hi => List.map_congr_left fun k hk => ?_
    exact more_same h h' hb hle (List.mem_range.1 hi) (List.mem_range.1 hk)
  · rw [decide_eq_false hle, decide_eq_false]
    intro e
    apply more_not h h' hb (by omega)
    have := congrArg (fun t => (t.getD v.f0.toNat []).getD v.f1.toNat 0) e
    simp only [tbl_get (show v.f0.toNat < n by omega) (show v.f1.toNat < n by omega)] at this
    exact this
end
/-- The law More, all at once. -/
theorem more_all (x : Nums) {j0 j1 : Nat} (h0 : j0 < hidN x.n) (h1 : j1 < hidN x.n) (p : Int) (hp : 0 ≤ p ∧ p < 60) {m : Int} (hm : m = (hidL x.n x.hs).getD j1 0 - (hidL x.n x.hs).getD j0 0 + p) :
    closeB (hidN x.n) (baseL x) = true ∧ closeB (hidN x.n) (baseL x ++ [⟨j0, j1, m⟩]) = true ∧ (∀ i k, i < hidN x.n → k < hidN x.n → distI (hidN x.n) (bds (baseL x ++ [⟨j0, j1, m⟩])) i k ≤ distI (hidN x.n) (bds (baseL x)) i k) ∧
    impliedB (hidN x.n) (baseL x) ⟨j0, j1, m⟩ = decide (tblL (hidN x.n) (distI (hidN x.n) (bds (baseL x ++ [⟨j0, j1, m⟩]))) = tblL (hidN x.n) (distI (hidN x.n) (bds (baseL x)))) := by
  have hr0 := hidL_range x.n x.hs j0
  have hr1 := hidL_range x.n x.hs j1
  have hb : boundB (hidN x.n) ⟨(j0 : Int), (j1 : Int), m⟩ = true := bound_of (by simp only; omega) (by simp only; omega) (by simp only; omega)
  have hal := allowed_snoc (v := ⟨(j0 : Int), (j1 : Int), m⟩) (base_allowed x) (by rw [baseL_len]; omega) hb (by simp only [Int.toNat_natCast]; omega)
  have hv := valid_snoc (v := ⟨(j0 : Int), (j1 : Int), m⟩) (base_valid x) (by rw [baseL_len]; omega) hb
  have hc' := (close_iff hv).2 (by have := allowed_fine hal; rwa [Int.toNat_natCast] at this)
  exact ⟨base_close x, hc', fun i k hi hk => more_le (base_close x) hc' hi hk, more_law (base_close x) hc' hb⟩
end Go.Proofs.Ytlokeimfmbgigaa.Pl

set_option linter.unusedVariables false
namespace Go.Proofs.Ytlokeimfmbgigaa.Pl
open Go.RowKit Go.Proofs.YtlokeimfmbgigaaW.PrintWords
open Go.Proofs.Ytlokeimfmbgigaa.Ref Go.Proofs.Ytlokeimfmbgigaa.Bk
theorem ChN.bd300 {E : List Bd} (hE : ∀ e ∈ E, -300 ≤ e.2.2 ∧ e.2.2 ≤ 300) {m i k : Nat} {s : Int} (h : ChN E m i k s) : -(300 * (m : Int)) ≤ s ∧ s ≤ 300 * (m : Int) := by
  induction h with
  | nil i => omega
  | snoc _ he ih => have := hE _ he; simp only at this; omega
theorem made_300 (x : Nums) : ∀ e ∈ bds (madeL x), -300 ≤ e.2.2 ∧ e.2.2 ≤ 300 := by
  intro e he
  obtain ⟨b, hb, rfl⟩ := List.mem_map.1 he
  exact (made_in x hb).2.2
theorem made_dist (x : Nums) (hf : Fine (hidN x.n) (bds (madeL x))) {i k : Nat} (hi : i < hidN x.n) (hk : k < hidN x.n) {d : Int} (hd : distT (hidN x.n) (bds (madeL x)) i k = some d) : -2400 ≤ d ∧ d ≤ 2400 := by
  have hL := dist_least (valid_in (made_valid x)) hf
  obtain ⟨m, hc⟩ := (hL.1 i k d hd).chN
  obtain ⟨m', s', h1, h2, h3, h4⟩ := hc.short (valid_in (made_valid x)) hf m
  obtain ⟨y, hy, hle⟩ := hL.2 i k s' hi hk h4.ch
  rw [hd] at hy
  have : d = y := by injection hy
  have hb := h4.bd300 (made_300 x)
  have := hidN_range x.n
  omega
/-- Bounds that contradict each other are those of which one was made less. -/
theorem made_misses (x : Nums) (h : closeB (hidN x.n) (madeL x) = false) : missB x.miss = true := by
  cases hm : missB x.miss with
  | true => rfl
  | false =>
    have : madeL x = baseL x := lessL_not hm _
    rw [this, base_close] at h
    cases h
/-- The situation of just the distances from a variable. -/
def thereV (x : Nums) (k i : Nat) : Int := if distI (hidN x.n) (bds (madeL x)) k i = Far then 1000000000 + (solveL (hidN x.n) (madeL x)).getD i 0 else distI (hidN x.n) (bds (madeL x)) k i
def thereL (x : Nums) (k : Nat) : List Int := (List.range (hidN x.n)).map (thereV x k)
theorem thereL_len (x : Nums) (k : Nat) : (thereL x k).length = hidN x.n := by simp [thereL]
theorem thereL_get (x : Nums) (k : Nat) {i : Nat} (hi : i < hidN x.n) : (thereL x k).getD i 0 = thereV x k i := by
  rw [List.getD_eq_getElem?_getD]
  simp [thereL, hi]
section
variable (x : Nums) (h : closeB (hidN x.n) (madeL x) = true)
include h
theorem sol_2400 {j : Nat} (hj : j < hidN x.n) : -2400 ≤ (solveL (hidN x.n) (madeL x)).getD j 0 ∧ (solveL (hidN x.n) (madeL x)).getD j 0 ≤ 0 := by
  rw [solveL_get h hj]
  refine ⟨?_, solT_zero _ _ _⟩
  rcases solT_got (distT (hidN x.n) (bds (madeL x))) j (hidN x.n) with e | ⟨i, hi, e⟩
  · omega
  · exact (made_dist x (close_fine h) hi hj e).1
theorem there_cases {k i : Nat} (hk : k < hidN x.n) (hi : i < hidN x.n) : (distT (hidN x.n) (bds (madeL x)) k i = none ∧ thereV x k i = 1000000000 + (solveL (hidN x.n) (madeL x)).getD i 0) ∨ ∃ d, distT (hidN x.n) (bds (madeL x)) k i = some d ∧ thereV x k i = d ∧ -2400 ≤ d ∧ d ≤ 2400 := by
  unfold thereV
  rcases dist_cases (close_valid h) (close_fine h) hk hi with ⟨e1, e2⟩ | ⟨d, e1, e2, _⟩
  · left
    rw [if_pos e2]
    exact ⟨e1, rfl⟩
  · right
    have hb := made_dist x (close_fine h) hk hi e1
    rw [e2, if_neg (by unfold Far; omega)]
    exact ⟨d, e1, rfl, hb⟩
theorem there_range {k i : Nat} (hk : k < hidN x.n) (hi : i < hidN x.n) : -2400 ≤ thereV x k i ∧ thereV x k i ≤ 1000000000 := by
  have := sol_2400 x h hi
  rcases there_cases x h hk hi with ⟨_, e⟩ | ⟨d, _, e, hd⟩ <;> omega
theorem there_zero {k : Nat} (hk : k < hidN x.n) : thereV x k k = 0 := by
  have hd := least_diag (close_least h) (close_fine h) hk
  rcases there_cases x h hk hk with ⟨e, _⟩ | ⟨d, e, e2, _⟩
  · rw [hd] at e; cases e
  · rw [hd] at e
    injection e with e
    omega
theorem there_allowed {k : Nat} (hk : k < hidN x.n) : allowedB (hidN x.n) (madeL x) (thereL x k) = true := by
  unfold allowedB
  simp only [Bool.and_eq_true, decide_eq_true_eq]
  refine ⟨⟨⟨made_valid x, by rw [thereL_len]⟩, List.all_eq_true.2 fun v hv => ?_⟩, (keeps_iff _ _).2 fun e he => ?_⟩
  · obtain ⟨j, hj, rfl⟩ := List.mem_map.1 hv
    have := there_range x h hk (List.mem_range.1 hj)
    unfold nearB
    rw [decide_eq_true_eq]
    omega
  · obtain ⟨h1, h2⟩ := valid_in (made_valid x) e he
    simp only
    rw [thereL_get _ _ h1, thereL_get _ _ h2]
    have hw := made_300 x e he
    have hs1 := sol_2400 x h h1
    rcases there_cases x h hk h1 with ⟨e1, e2⟩ | ⟨d1, e1, e2, hd1⟩
    · rcases there_cases x h hk h2 with ⟨e3, e4⟩ | ⟨d2, e3, e4, hd2⟩
      · rw [e2, e4]
        have := allowed_keeps (solve_allowed h) e he
        simp only at this
        omega
      · rw [e2, e4]; omega
    · obtain ⟨y, hy, hle⟩ := row_keeps (close_least h) (valid_in (made_valid x)) hk e he d1 e1
      rcases there_cases x h hk h2 with ⟨e3, e4⟩ | ⟨d2, e3, e4, hd2⟩
      · rw [hy] at e3; cases e3
      · rw [hy] at e3
        injection e3 with e3
        rw [e2, e4]
        omega
/-- An allowed situation keeps all distances. -/
theorem least_law {y : List Int} (hy : allowedB (hidN x.n) (madeL x) y = true) {i j : Nat} (hi : i < hidN x.n) (hj : j < hidN x.n) : y.getD j 0 - y.getD i 0 ≤ distI (hidN x.n) (bds (madeL x)) i j ∧ (-1000000000000 ≤ y.getD i 0 ∧ y.getD i 0 ≤ 1000000000000) ∧ (-1000000000000 ≤ y.getD j 0 ∧ y.getD j 0 ≤ 1000000000000) ∧ y.length = hidN x.n := by
  have hy' := hy
  unfold allowedB at hy'
  simp only [Bool.and_eq_true, decide_eq_true_eq, List.all_eq_true] at hy'
  have hlen : y.length = hidN x.n := by have := hy'.1.1.2; omega
  have near : ∀ q, q < hidN x.n → -1000000000000 ≤ y.getD q 0 ∧ y.getD q 0 ≤ 1000000000000 := fun q hq => by
    have := hy'.1.2 (y.getD q 0) (by rw [List.getD_eq_getElem?_getD, List.getElem?_eq_getElem (by omega)]; exact List.getElem_mem _)
    unfold nearB at this
    rwa [decide_eq_true_eq] at this
  refine ⟨?_, near i hi, near j hj, hlen⟩
  rcases dist_cases (close_valid h) (close_fine h) hi hj with ⟨_, e⟩ | ⟨d, e1, e2, _⟩
  · have := near i hi
    have := near j hj
    rw [e]
    unfold Far
    omega
  · rw [e2]
    exact allowed_dist hy (by rwa [Int.toNat_natCast])
end
end Go.Proofs.Ytlokeimfmbgigaa.Pl

set_option linter.unusedVariables false
namespace Go.Proofs.Ytlokeimfmbgigaa.Bk
open Go.RowKit Go.Shelf Go.Proofs.YtlokeimfmbgigaaW.PrintWords Go.Proofs.YtlokeimfmbgigaaW.PrintLast Go.Proofs.YtlokeimfmbgigaaW.PrintMore
open Go.Proofs.Ytlokeimfmbgigaa.Ref Go.Proofs.Ytlokeimfmbgigaa.Pl Go.Proofs.Ytlokeimfmbgigaa.Qs

theorem Tw.form {w : World} {tb : List (List Int)} {v : Value} (h : Tw w tb v) : ∃ A k c, v = .slice A k c ∧ k = tb.length := by
  obtain ⟨A, c, rfl, _, _⟩ := h
  exact ⟨A, _, c, rfl, rfl⟩
/-- A row of a table. -/
theorem Tw.row {w : World} {tb : List (List Int)} {A : Option Addr} {k c : Nat} (h : Tw w tb (.slice A k c)) {i : Nat} (hi : i < tb.length) : ∃ ad B r d, A = some ad ∧ w.cell? (ad.add i) = some (.slice B r d) ∧ r = (tb.getD i []).length ∧ Iw w (tb.getD i []) (.slice B r d) := by
  obtain ⟨A', c', e, h1, h2, h3, h4⟩ := h
  simp only [Value.slice.injEq] at e
  obtain ⟨rfl, rfl, rfl⟩ := e
  obtain ⟨ad, e, hc⟩ := h4 (by omega)
  obtain ⟨cs, hl, ⟨B, d, e2, h5, h6⟩, hcell⟩ := hc i (tb.getD i []) (by rw [List.getD_eq_getElem?_getD, List.getElem?_eq_getElem hi]; rfl)
  subst e2
  have := hcell 0 _ rfl
  rw [Nat.add_zero, show i * (Kd.slice 3 (Kd.int IntKind.i64)).sz = i from Nat.mul_one i] at this
  exact ⟨ad, B, _, d, e, this, rfl, B, d, rfl, h5, h6⟩
theorem tbl_row_len {n : Nat} {D : Ti} {i : Nat} (hi : i < n) : ((tblL n D).getD i []).length = n := by
  simp [tblL, rowL, List.getD_eq_getElem?_getD, hi]
set_option maxHeartbeats 4000000 in
set_option maxRecDepth 100000 in
theorem betweenMore_calls (x : Nums) (v : Value) (q0 q1 q2 : Int) (w : World) (h : Nw w x v) (hq0 : I64 q0) (hq1 : I64 q1) (hq2 : I64 q2) :
    Calls Try.prog 3 #[v, .agg #[.int .i64 q0, .int .i64 q1, .int .i64 q2]] w fun e w' => e = .returned (.bool true) ∧ Below w.heap.size w w' := by
  obtain ⟨s1, s2, rfl, hX⟩ := Xb.start h
  have hX2 := hX.below ((Below.refl _ _).alloc (Nat.le_refl _) (.cells #[.int .i64 q0, .int .i64 q1, .int .i64 q2] 26))
  have hQ := blk_new (w.alloc (.cells #[.int .i64 x.n, s1, s2, .int .i64 x.miss] 25)) (.cells #[.int .i64 q0, .int .i64 q1, .int .i64 q2] 26)
  rw [World.size_alloc] at hQ
  have HX := Aside0.mk hX2
  have HQ := Aside0.mk hQ
  have HI := Aside0.mk (And.intro hq0 (And.intro hq1 hq2))
  have HR := Aside0.mk (hidN_range x.n)
  clear h hX hX2 hQ hq0 hq1 hq2
  go_enter Try.func3, Try.ntmps3
  go_wp2_with fail
  refine (sane_calls _).mono ?_
  rintro e w1 ⟨rfl, h1⟩
  replace HX := Aside0.mk (HX.out.below h1)
  replace HQ := Aside0.mk (blk_below HQ.out h1)
  clear h1
  have k0 := HX.out.c0
  have k1 := HX.out.c1
  have k2 := HX.out.c2
  have k3 := HX.out.c3
  have f3 := HX.out.f3
  go_wp2_with fail
  have HZ := Aside0.mk HX.out.zero
  replace HQ := Aside0.mk (blk_far HQ.out (p := ⟨w.heap.size, 3, none⟩) (by simp only; omega) (.int .i64 0))
  generalize w1.setCell ⟨w.heap.size, 3, none⟩ (.int .i64 0) = W1 at *
  clear k0 k1 k2 k3 f3 HX
  refine (made_calls _ _ W1 HZ.out.nw).mono ?_
  rintro e w2 ⟨u2, rfl, r2, h2⟩
  have hmz : madeL ⟨x.n, x.hs, x.bs, 0⟩ = baseL x := lessL_zero _
  rw [hmz] at r2
  replace HZ := Aside0.mk (HZ.out.below h2)
  replace HQ := Aside0.mk (blk_below HQ.out h2)
  obtain ⟨AB, kb, cb, rfl, hkb, hY⟩ := r2.box (w0 := w) HZ.out.bel.size
  have HY := Aside0.mk hY
  replace HZ := Aside0.mk (HZ.out.below ((Below.refl _ w2).alloc (Nat.le_refl _) (.cells #[.int .i64 (hidN x.n : Int), .slice AB kb cb] 30)))
  replace HQ := Aside0.mk (blk_alloc HQ.out (.cells #[.int .i64 (hidN x.n : Int), .slice AB kb cb] 30))
  clear hY h2 r2 hmz hkb
  have k0 := HZ.out.c0
  have k1 := HZ.out.c1
  have k2 := HZ.out.c2
  have k3 := HZ.out.c3
  go_wp2_with fail
  refine (hiddenV HZ.out.nw).mono ?_
  rintro e w3 ⟨u3, rfl, r3, h3⟩
  have HB := Aside0.mk (below_step HZ.out.bel h3)
  replace HY := Aside0.mk (HY.out.below h3)
  replace HQ := Aside0.mk (blk_below HQ.out h3)
  obtain ⟨AH, kh, ch, rfl, hkh, _⟩ := r3.form
  have HH := Aside0.mk r3
  have HKH := Aside0.mk (show kh = hidN x.n from hkh.trans (hidL_len _ _))
  clear hkh r3 h3 k0 k1 k2 k3 HZ
  obtain rfl := HKH.out
  clear HKH
  -- the further bound
  have hp0 := pickP_range q0 (hidN x.n) (by have := HR.out; omega)
  have hp1 := pickP_range q1 (hidN x.n) (by have := HR.out; omega)
  have hp2 := pickP_range q2 60 (by omega)
  obtain ⟨j0, hj0⟩ : ∃ j : Nat, pickP q0 (hidN x.n) = (j : Int) := ⟨(pickP q0 (hidN x.n)).toNat, by omega⟩
  obtain ⟨j1, hj1⟩ : ∃ j : Nat, pickP q1 (hidN x.n) = (j : Int) := ⟨(pickP q1 (hidN x.n)).toNat, by omega⟩
  obtain ⟨p2, hj2⟩ : ∃ p, pickP q2 60 = p := ⟨_, rfl⟩
  rw [hj0] at hp0
  rw [hj1] at hp1
  rw [hj2] at hp2
  have HJ := Aside0.mk (And.intro (show j0 < hidN x.n by omega) (And.intro (show j1 < hidN x.n by omega) hp2))
  have PK0 := Aside0.mk (fun X => pickL1 q0 (hidN x.n) j0 X HI.out.1 (by have := HR.out; omega) hj0)
  have PK1 := Aside0.mk (fun X => pickL1 q1 (hidN x.n) j1 X HI.out.2.1 (by have := HR.out; omega) hj1)
  have PK2 := Aside0.mk (fun X => pickL1 q2 60 p2 X HI.out.2.2 (by omega) hj2)
  clear hp0 hp1 hp2 hj0 hj1 hj2
  obtain ⟨ah, rfl, hz0⟩ := HH.out.at (show j0 < (hidL x.n x.hs).length by rw [hidL_len]; exact HJ.out.1)
  obtain ⟨ad, e, hz1⟩ := HH.out.at (show j1 < (hidL x.n x.hs).length by rw [hidL_len]; exact HJ.out.2.1)
  obtain rfl : ah = ad := by injection e
  have hv0 := hidL_range x.n x.hs j0
  have hv1 := hidL_range x.n x.hs j1
  have HLAW := Aside0.mk (fun m hm => more_all x HJ.out.1 HJ.out.2.1 p2 HJ.out.2.2 (m := m) hm)
  clear e HH
  have HLEN := Aside0.mk (show (baseL x).length ≤ 16 from by rw [baseL_len]; omega)
  generalize (hidL x.n x.hs).getD j0 0 = z0 at *
  generalize (hidL x.n x.hs).getD j1 0 = z1 at *
  generalize baseL x = l at *
  generalize hidN x.n = N at *
  obtain ⟨m, hm⟩ : ∃ m, m = z1 - z0 + p2 := ⟨_, rfl⟩
  replace HLAW := Aside0.mk (HLAW.out m hm)
  have hw1 : IntKind.i64.wrap (z1 - z0) = z1 - z0 := IntWalk.i64_in _ (by omega)
  have hw2 : IntKind.i64.wrap (z1 - z0 + p2) = m := (IntWalk.i64_in _ (by have := HJ.out.2.2; omega)).trans hm.symm
  have HW := Aside0.mk (And.intro hw1 hw2)
  have HZ0 := Aside0.mk hz0
  have HZ1 := Aside0.mk hz1
  have y0 : w3.cell? ⟨w.heap.size + 1, 0, none⟩ = some (.int .i64 q0) := (blk_cell HQ.out 0).trans rfl
  have y1 : w3.cell? ⟨w.heap.size + 1, 1, none⟩ = some (.int .i64 q1) := (blk_cell HQ.out 1).trans rfl
  have k0 := HY.out.c0
  have HLA := Aside0.mk (show w.heap.size + 1 < w3.heap.size ∧ w2.heap.size < w3.heap.size from ⟨World.block_lt_of_cell? w3 _ y0, World.block_lt_of_cell? w3 _ k0⟩)
  clear hw1 hw2 hz0 hz1 hv0 hv1 hm
  generalize hg5 : w2.heap.size = g5 at *
  clear hg5
  go_upto_region 6 with (fail)
  go_cut [7] (fun s7 w' => ∃ gy, s7 = .pointer (some ⟨gy, 0, none⟩) ∧ Aside0 (w'.heap[gy]? = some (.cells #[.int .i64 (j0 : Int), .int .i64 (j1 : Int), .int .i64 0] 35 (0, 0))) ∧ Aside0 (Below w3.heap.size w3 w') ∧ Aside0 (w3.heap.size ≤ gy))
  case first =>
    go_region_held3 (fun w' => w'.cell? ⟨w.heap.size + 1, 0, none⟩ = some (.int .i64 q0) ∧ w'.cell? ⟨w.heap.size + 1, 1, none⟩ = some (.int .i64 q1) ∧ w'.cell? ⟨g5, 0, none⟩ = some (.int .i64 (N : Int)))
      (first | exact ⟨y0, y1, k0⟩ | exact ⟨cell_alloc_far y0 _, cell_alloc_far y1 _, cell_alloc_far k0 _⟩ | exact ⟨cell_far3 (cell_alloc_far y0 _) HLA.out.1 _ _ _, cell_far3 (cell_alloc_far y1 _) HLA.out.1 _ _ _, cell_far3 (cell_alloc_far k0 _) HLA.out.2 _ _ _⟩ | go_keep)
      (first | (go_at_call 13; (with_reducible refine (PK0.out _).mono ?_); rintro e wz ⟨rfl, rfl⟩) | (go_at_call 13; (with_reducible refine (PK1.out _).mono ?_); rintro e wz ⟨rfl, rfl⟩))
    all_goals
      go_wp2_with fail
      go_meet
      case rel => exact ⟨w3.heap.size, rfl, ⟨blk_drew (blk_new w3 _)⟩, ⟨below_drew ((Below.refl _ w3).alloc (Nat.le_refl _) _)⟩, ⟨Nat.le_refl _⟩⟩
  case rest =>
    obtain ⟨gy, rfl, HV, HBr, HGY⟩ := hcut
    have HBX := Aside0.mk (pw_cell_below HBr.out HZ0.out)
    have HBY := Aside0.mk (pw_cell_below HBr.out HZ1.out)
    have hb0 := HBX.out
    have hb1 := HBY.out
    have x0 : wc.cell? ⟨gy, 0, none⟩ = some (.int .i64 (j0 : Int)) := (blk_cell HV.out 0).trans rfl
    have x1 : wc.cell? ⟨gy, 1, none⟩ = some (.int .i64 (j1 : Int)) := (blk_cell HV.out 1).trans rfl
    have x2 : wc.cell? ⟨gy, 2, none⟩ = some (.int .i64 0) := (blk_cell HV.out 2).trans rfl
    have f2 := blk_frozen HV.out 2
    have y2 : wc.cell? ⟨w.heap.size + 1, 2, none⟩ = some (.int .i64 q2) := pw_cell_below HBr.out ((blk_cell HQ.out 2).trans rfl)
    have r0 := eq_true (show (j0 : Int) < (N : Int) by have := HJ.out; omega)
    have r1 := eq_true (show (0 : Int) ≤ (j0 : Int) by omega)
    have r2 := eq_true (show (j1 : Int) < (N : Int) by have := HJ.out; omega)
    have r3 := eq_true (show (0 : Int) ≤ (j1 : Int) by omega)
    have hw1 := HW.out.1
    have hw2 := HW.out.2
    clear y0 y1 k0
    go_upto_region 7 with (fail)
    refine wp_region_still_tail 16 (by kernel_rfl) (by kernel_rfl) ?_
    simp only [List.take_succ_cons, List.take_zero, List.drop_succ_cons, List.drop_zero]
    repeat still_step
    still_call (PK2.out _)
    repeat still_step
    refine wpStill_nil ?_
    go_upto_region 8 with (fail)
    have hbw := below_drew (HBr.out.setCell (p := ⟨gy, 2, none⟩) HGY.out (.int .i64 m))
    have hv4 := blk_drew (blk_put HV.out 2 (.int .i64 m) rfl)
    replace HY := Aside0.mk (HY.out.below hbw)
    replace HB := Aside0.mk (below_step HB.out hbw)
    generalize (wc.setCell ⟨gy, 2, none⟩ (.int .i64 m)).drew = W4 at *
    have HV4 := Aside0.mk (show W4.heap[gy]? = some (.cells #[.int .i64 (j0 : Int), .int .i64 (j1 : Int), .int .i64 m] 35 (0, 0)) from hv4)
    have HC := Aside0.mk (And.intro HLAW.out.1 HLAW.out.2.1)
    have HLE := Aside0.mk HLAW.out.2.2.1
    have HIM := Aside0.mk HLAW.out.2.2.2
    clear x0 x1 x2 f2 y2 r0 r1 r2 r3 hw1 hw2 hb0 hb1 hbw hv4 HLAW HBX HBY HV HBr HGY HZ0 HZ1 HW HLA HQ PK0 PK1 PK2
    have k0 := HY.out.c0
    have k1 := HY.out.c1
    have x0 : W4.cell? ⟨gy, 0, none⟩ = some (.int .i64 (j0 : Int)) := (blk_cell HV4.out 0).trans rfl
    have x1 : W4.cell? ⟨gy, 1, none⟩ = some (.int .i64 (j1 : Int)) := (blk_cell HV4.out 1).trans rfl
    have x2 : W4.cell? ⟨gy, 2, none⟩ = some (.int .i64 m) := (blk_cell HV4.out 2).trans rfl
    obtain ⟨bi, hbi⟩ : ∃ b, impliedB N l ⟨j0, j1, m⟩ = b := ⟨_, rfl⟩
    have HBI := Aside0.mk hbi
    clear hbi
    go_wp2_with fail
    refine (impliedV HY.out.bw ⟨j0, j1, m⟩ _ bi rfl HBI.out).mono ?_
    rintro e w5 ⟨t5, rfl, _, h5⟩
    replace HY := Aside0.mk (HY.out.below h5)
    replace HB := Aside0.mk (below_step HB.out h5)
    replace HV4 := Aside0.mk (blk_below HV4.out h5)
    clear h5 k0 k1 x0 x1 x2
    have k0 := HY.out.c0
    have k1 := HY.out.c1
    go_wp2_with fail
    refine (closeV HY.out.bw (tblL N (distI N (bds l))) 0 (by unfold closeL; rw [HC.out.1, Int.toNat_natCast]; rfl) (by rw [HC.out.1]; rfl)).mono ?_
    rintro e w6 ⟨t6, rfl, r6, h6⟩
    replace HY := Aside0.mk (HY.out.below h6)
    replace HB := Aside0.mk (below_step HB.out h6)
    replace HV4 := Aside0.mk (blk_below HV4.out h6)
    obtain ⟨A6, k6, c6, rfl, hk6⟩ := r6.form
    have HT := Aside0.mk r6
    have HK6 := Aside0.mk (hk6.trans (tblL_len _ _))
    clear hk6 r6 h6 k0 k1
    obtain rfl := HK6.out
    clear HK6
    have k0 := HY.out.c0
    have k1 := HY.out.c1
    have x0 : w6.cell? ⟨gy, 0, none⟩ = some (.int .i64 (j0 : Int)) := (blk_cell HV4.out 0).trans rfl
    have x1 : w6.cell? ⟨gy, 1, none⟩ = some (.int .i64 (j1 : Int)) := (blk_cell HV4.out 1).trans rfl
    have x2 : w6.cell? ⟨gy, 2, none⟩ = some (.int .i64 m) := (blk_cell HV4.out 2).trans rfl
    go_wp2_with fail
    refine (withV HY.out.bw ⟨j0, j1, m⟩ (by have := HLEN.out; omega)).mono ?_
    rintro e w7 ⟨t7, rfl, r7, h7⟩
    replace HY := Aside0.mk (HY.out.below h7)
    replace HB := Aside0.mk (below_step HB.out h7)
    replace HT := Aside0.mk (HT.out.below h7)
    have HO := Aside0.mk r7
    clear r7 h7 k0 k1 x0 x1 x2 HV4
    go_wp2_with fail
    refine (closeV HO.out (tblL k6 (distI k6 (bds (l ++ [⟨j0, j1, m⟩])))) 0 (by unfold closeL; rw [HC.out.2, Int.toNat_natCast]; rfl) (by rw [HC.out.2]; rfl)).mono ?_
    rintro e w8 ⟨t8, rfl, r8, h8⟩
    replace HY := Aside0.mk (HY.out.below h8)
    replace HB := Aside0.mk (below_step HB.out h8)
    replace HT := Aside0.mk (HT.out.below h8)
    obtain ⟨A8, k8, c8, rfl, hk8⟩ := r8.form
    have HU := Aside0.mk r8
    have HK8 := Aside0.mk (hk8.trans (tblL_len _ _))
    clear hk8 r8 h8 HO
    obtain rfl := HK8.out
    clear HK8
    have k0 := HY.out.c0
    have k1 := HY.out.c1
    go_wp2_with fail
    clear k0 k1
    go_loopg [14] (k8 + 1) (fun kq v14 wq => ∃ (i : Nat), v14 = .int .i64 (i : Int) ∧ Aside0 (i + kq = k8 + 1 ∧ i ≤ k8) ∧ Aside0 (Below w8.heap.size w8 wq))
    case atStart => exact ⟨0, rfl, ⟨by omega, by omega⟩, ⟨Below.refl _ _⟩⟩
    case round =>
      obtain ⟨i, rfl, HK, HQ⟩ := hrel
      obtain ⟨wi, rfl⟩ : ∃ wi : World, wi = wr := ⟨_, rfl⟩
      have hi9 : i + 1 ≤ 9 := by have := HK.out; have := HR.out; omega
      have k0 := (HY.out.below HQ.out).c0
      by_cases hi : i < k8
      · have q1 := eq_true hi
        have q2 := eq_true (show (i : Int) < (k8 : Int) by omega)
        have q3 := eq_true (show (0 : Int) ≤ (i : Int) by omega)
        have HII := Aside0.mk hi
        clear hi
        go_wp2_with fail
        clear k0
        go_loopg [15] (k8 + 1) (fun kr v15 wq => ∃ (k : Nat), v15 = .int .i64 (k : Int) ∧ Aside0 (k + kr = k8 + 1 ∧ k ≤ k8) ∧ Aside0 (Below w8.heap.size w8 wq))
        case atStart => exact ⟨0, rfl, ⟨by omega, by omega⟩, HQ⟩
        case round =>
          clear HQ
          obtain ⟨k, rfl, HL, HQ⟩ := hrel
          have hk9 : k + 1 ≤ 9 := by have := HL.out; have := HR.out; omega
          have k0 := (HY.out.below HQ.out).c0
          by_cases hk : k < k8
          · have q4 := eq_true hk
            have q5 := eq_true (show (k : Int) < (k8 : Int) by omega)
            have q6 := eq_true (show (0 : Int) ≤ (k : Int) by omega)
            have HKK := Aside0.mk hk
            obtain ⟨a6, B6, r6, d6, rfl, t0, hr6, hI6⟩ := (HT.out.below HQ.out).row (show i < (tblL k8 (distI k8 (bds l))).length by rw [tblL_len]; exact HII.out)
            obtain ⟨a8, B8, r8, d8, rfl, t1, hr8, hI8⟩ := (HU.out.below HQ.out).row (show i < (tblL k8 (distI k8 (bds (l ++ [⟨j0, j1, m⟩])))).length by rw [tblL_len]; exact HII.out)
            rw [tbl_row_len HII.out] at hr6 hr8
            subst hr6 hr8
            obtain ⟨b6, rfl, t2⟩ := hI6.at (show k < _ by rw [tbl_row_len HII.out]; exact hk)
            obtain ⟨b8, rfl, t3⟩ := hI8.at (show k < _ by rw [tbl_row_len HII.out]; exact hk)
            rw [tbl_get HII.out hk] at t2 t3
            have hle := HLE.out i k HII.out hk
            generalize distI r8 (bds l) i k = e6 at t2 hle
            generalize distI r8 (bds (l ++ [⟨j0, j1, m⟩])) i k = e8 at t3 hle
            have g1 : decide (e6 < e8) = false := decide_eq_false (by omega)
            have g2 := eq_false (show ¬ e6 < e8 by omega)
            clear hI6 hI8 hle hk
            go_upto_region 19 with (fail)
            go_quiet (fail)
            go_wp2_with fail
            go_roundg (r8 - k)
            case measure => have := HL.out; have := HKK.out; omega
            case rel => exact ⟨k + 1, by go_num, ⟨by have := HL.out; have := HKK.out; omega, by have := HKK.out; omega⟩, ⟨by first | exact below_drew HQ.out | exact pw_below_drewN HQ.out _ | exact HQ.out⟩⟩
          · have q4 := eq_false hk
            have q5 := eq_false (show ¬ (k : Int) < (k8 : Int) by omega)
            clear hk
            go_wp2_with fail
            go_roundg (k8 - i)
            case measure => have := HK.out; have := HII.out; omega
            case rel => exact ⟨i + 1, by go_num, ⟨by have := HK.out; have := HII.out; omega, by have := HII.out; omega⟩, HQ⟩
      · have q1 := eq_false hi
        have q2 := eq_false (show ¬ (i : Int) < (k8 : Int) by omega)
        clear hi
        go_wp2_with fail
        refine (tablesV (HU.out.below HQ.out) (HT.out.below HQ.out) (by rw [tblL_len]; have := HR.out; omega) (fun r hr => by obtain ⟨q, _, rfl⟩ := List.mem_map.1 hr; rw [rowL_len]; have := HR.out; omega) bi (by rw [← HIM.out]; exact HBI.out)).mono ?_
        rintro e w9 ⟨rfl, h9⟩
        have HF := Aside0.mk (below_step (below_step HB.out HQ.out) h9)
        clear h9 k0
        cases bi with
        | true =>
          go_wp2_with fail
          go_ret
          exact ⟨rfl, HF.out⟩
        | false =>
          go_wp2_with fail
          go_ret
          exact ⟨rfl, HF.out⟩
end Go.Proofs.Ytlokeimfmbgigaa.Bk

set_option linter.unusedVariables false
namespace Go.Proofs.Ytlokeimfmbgigaa.Bk
open Go.RowKit Go.Shelf Go.Proofs.YtlokeimfmbgigaaW.PrintWords Go.Proofs.YtlokeimfmbgigaaW.PrintLast Go.Proofs.YtlokeimfmbgigaaW.PrintMore
open Go.Proofs.Ytlokeimfmbgigaa.Ref Go.Proofs.Ytlokeimfmbgigaa.Pl Go.Proofs.Ytlokeimfmbgigaa.Qs

theorem Iw_ownR {w : World} {base n : Nat} {v : Value} {ks : List Int} (h : w.ownsRow base 3 1 v n (intsR ks)) (hn : n = ks.length) (hl : ks.length ≤ 1000000) : Iw w ks v := by
  subst hn
  rcases h.2 with ⟨rfl, h0⟩ | ⟨g, cap, cur, rfl, hb, hg, hnc, hc, hsz, htk⟩
  · have : ks = [] := List.eq_nil_of_length_eq_zero h0
    subst this
    exact Iw.nil w
  · refine ⟨some ⟨g, 0, none⟩, cap, rfl, hnc, C_ints hl (fun j x hj => ?_)⟩
    have hjl : j < ks.length := (List.getElem?_eq_some_iff.1 hj).1
    rw [h.cellAt j (by omega)]
    simp only [intsR, List.getElem?_map, hj, Option.map_some]
set_option maxHeartbeats 4000000 in
set_option maxRecDepth 100000 in
theorem betweenLeast_calls (x : Nums) (v : Value) (which : Int) (w : World) (h : Nw w x v) (hwh : I64 which) :
    Calls Try.prog 6 #[v, .int .i64 which] w fun e w' => e = .returned (.bool true) ∧ Below w.heap.size w w' := by
  obtain ⟨s1, s2, rfl, hX⟩ := Xb.start h
  have HX := Aside0.mk hX
  have HWH := Aside0.mk hwh
  have HR := Aside0.mk (hidN_range x.n)
  clear h hX hwh
  go_enter Try.func6, Try.ntmps6
  go_wp2_with fail
  refine (sane_calls _).mono ?_
  rintro e w1 ⟨rfl, h1⟩
  replace HX := Aside0.mk (HX.out.below h1)
  clear h1
  have k0 := HX.out.c0
  have k1 := HX.out.c1
  have k2 := HX.out.c2
  have k3 := HX.out.c3
  go_wp2_with fail
  refine (made_calls _ _ w1 HX.out.nw).mono ?_
  rintro e w2 ⟨u2, rfl, r2, h2⟩
  replace HX := Aside0.mk (HX.out.below h2)
  obtain ⟨AB, kb, cb, rfl, hkb, hY⟩ := r2.box (w0 := w) HX.out.bel.size
  have HY := Aside0.mk hY
  replace HX := Aside0.mk (HX.out.below ((Below.refl _ w2).alloc (Nat.le_refl _) (.cells #[.int .i64 (hidN x.n : Int), .slice AB kb cb] 30)))
  clear hY h2 r2 hkb k0 k1 k2 k3
  have k0 := HY.out.c0
  have k1 := HY.out.c1
  go_wp2_with fail
  obtain ⟨cl, hcl⟩ : ∃ b, closeB (hidN x.n) (madeL x) = b := ⟨_, rfl⟩
  have HCL := Aside0.mk hcl
  clear hcl
  refine (closeV HY.out.bw (closeL (hidN x.n) (madeL x)) (errC cl) rfl (by rw [HCL.out])).mono ?_
  rintro e w3 ⟨t3, rfl, r3, h3⟩
  replace HX := Aside0.mk (HX.out.below h3)
  replace HY := Aside0.mk (HY.out.below h3)
  obtain ⟨AT, kt, ct, rfl, hkt⟩ := r3.form
  have HT := Aside0.mk r3
  have HKT := Aside0.mk hkt
  clear r3 h3 k0 k1 hkt
  have k0 := HY.out.c0
  have k1 := HY.out.c1
  go_wp2_with fail
  refine (solveV HY.out.bw (solveL (hidN x.n) (madeL x)) (errC cl) rfl (by rw [HCL.out])).mono ?_
  rintro e w4 ⟨t4, rfl, r4, h4⟩
  replace HX := Aside0.mk (HX.out.below h4)
  replace HY := Aside0.mk (HY.out.below h4)
  replace HT := Aside0.mk (HT.out.below h4)
  obtain ⟨AS, ks, cs, rfl, hks, _⟩ := r4.form
  have HS := Aside0.mk r4
  have HKS := Aside0.mk hks
  clear r4 h4 k0 k1 hks
  cases cl with
  | false =>
    have hm := made_misses x HCL.out
    have hlen : kt = 0 := by rw [HKT.out]; unfold closeL; rw [HCL.out]; rfl
    subst hlen
    have HMI := Aside0.mk hm
    clear hm
    have k0 := HX.out.c0
    have k1 := HX.out.c1
    have k2 := HX.out.c2
    have k3 := HX.out.c3
    have e60 : errC false = 60 := rfl
    rw [e60]
    go_wp2_with fail
    refine (misses_calls x _ w4 HX.out.nw).mono ?_
    rintro e w5 ⟨rfl, h5⟩
    have HF := Aside0.mk (below_step HX.out.bel h5)
    rw [HMI.out]
    clear h5 k0 k1 k2 k3
    go_wp2_with fail
    go_ret
    exact ⟨rfl, HF.out⟩
  | true =>
    have e0 : errC true = 0 := rfl
    rw [e0]
    have hkt : kt = hidN x.n := by rw [HKT.out]; unfold closeL; rw [HCL.out, Int.toNat_natCast]; exact tblL_len _ _
    have hks : ks = hidN x.n := by rw [HKS.out]; exact solveL_len HCL.out
    have HTB := Aside0.mk (show closeL (hidN x.n) (madeL x) = tblL (hidN x.n) (distI (hidN x.n) (bds (madeL x))) by unfold closeL; rw [HCL.out, Int.toNat_natCast]; rfl)
    replace HT := Aside0.mk (show Tw w4 (tblL (hidN x.n) (distI (hidN x.n) (bds (madeL x)))) (.slice AT kt ct) from HTB.out ▸ HT.out)
    have HLS := Aside0.mk (show (solveL (hidN x.n) (madeL x)).length = hidN x.n from solveL_len HCL.out)
    clear HKT HKS e0 HTB
    subst hkt
    subst hks
    have k0 := HY.out.c0
    have k1 := HY.out.c1
    go_wp2_with fail
    obtain ⟨k, hk⟩ : ∃ k : Nat, pickP which (hidN x.n) = (k : Int) := ⟨(pickP which (hidN x.n)).toNat, by have := pickP_range which (hidN x.n) (by have := HR.out; omega); omega⟩
    have hkn : k < hidN x.n := by have := pickP_range which (hidN x.n) (by have := HR.out; omega); omega
    refine (pickL1 which _ k _ HWH.out (by have := HR.out; omega) hk).mono ?_
    rintro e w4 ⟨rfl, rfl⟩
    clear hk
    have HKN := Aside0.mk hkn
    have HTL := Aside0.mk (show ∀ i, i < hidN x.n → (thereL x k).take (i + 1) = (thereL x k).take i ++ [thereV x k i] from fun i hi => by
      rw [List.take_succ_eq_append_getElem (by rw [thereL_len]; exact hi)]
      simp [thereL])
    have HTR := Aside0.mk (show ∀ i, i < hidN x.n → -2400 ≤ thereV x k i ∧ thereV x k i ≤ 1000000000 from fun i hi => there_range x HCL.out hkn hi)
    have HSR := Aside0.mk (show ∀ i, i < hidN x.n → -2400 ≤ (solveL (hidN x.n) (madeL x)).getD i 0 ∧ (solveL (hidN x.n) (madeL x)).getD i 0 ≤ 0 from fun i hi => sol_2400 x HCL.out hi)
    have HTV := Aside0.mk (show ∀ i, thereV x k i = if distI (hidN x.n) (bds (madeL x)) k i = Far then 1000000000 + (solveL (hidN x.n) (madeL x)).getD i 0 else distI (hidN x.n) (bds (madeL x)) k i from fun i => rfl)
    clear hkn k0 k1
    obtain ⟨N, hN⟩ : ∃ N, N = hidN x.n := ⟨_, rfl⟩
    have HNN := Aside0.mk hN
    generalize hSL : solveL (hidN x.n) (madeL x) = sl at HS HLS HSR HTV
    have HSL := Aside0.mk hSL
    clear hSL
    generalize hD : distI (hidN x.n) (bds (madeL x)) = D at HT HTV
    have HD := Aside0.mk hD
    clear hD
    simp only [← hN] at HR HY HT HLS HKN HTL HTR HSR HS ⊢
    clear hN
    have HG := Aside0.mk (show w2.heap.size < w4.heap.size from World.block_lt_of_cell? w4 _ HY.out.c0)
    have kN : k + 1 ≤ 9 := by have := HKN.out; have := HR.out; omega
    have kq1 := eq_true (show (k : Int) < (N : Int) by have := HKN.out; omega)
    have kq2 := eq_true (show (0 : Int) ≤ (k : Int) by omega)
    go_wp2_with fail
    go_loopg [11, 12] (N + 1) (fun kq v11 v12 wq => ∃ (i : Nat), v12 = .int .i64 (i : Int) ∧ Aside0 (i + kq = N + 1 ∧ i ≤ N) ∧ Aside0 (wq.ownsRow w4.heap.size 3 1 v11 i (intsR ((thereL x k).take i))) ∧ Aside0 (Below w4.heap.size w4 wq))
    case atStart => exact ⟨0, rfl, ⟨by omega, by omega⟩, ⟨⟨rfl, .inl ⟨rfl, rfl⟩⟩⟩, ⟨Below.refl _ _⟩⟩
    case round =>
      obtain ⟨i, rfl, HK, HO, HQ⟩ := hrel
      obtain ⟨wo, rfl⟩ : ∃ wo : World, wo = wr := ⟨_, rfl⟩
      have hi9 : i + 1 ≤ 9 := by have := HK.out; have := HR.out; omega
      have k0 := (HY.out.below HQ.out).c0
      by_cases hi : i < N
      · have q1 := eq_true hi
        have q2 := eq_true (show (i : Int) < (N : Int) by omega)
        have q3 := eq_true (show (0 : Int) ≤ (i : Int) by omega)
        have HI := Aside0.mk hi
        obtain ⟨aT, B1, r1, d1, rfl, t1, hr1, _⟩ := (HT.out.below HQ.out).row (show i < (tblL N D).length by rw [tblL_len]; exact hi)
        obtain ⟨ad, B2, r2, d2, e, t2, hr2, hI2⟩ := (HT.out.below HQ.out).row (show k < (tblL N D).length by rw [tblL_len]; exact HKN.out)
        obtain rfl : aT = ad := by injection e
        rw [tbl_row_len hi] at hr1
        rw [tbl_row_len HKN.out] at hr2
        obtain ⟨b2, rfl, t3⟩ := hI2.at (show i < _ by rw [tbl_row_len HKN.out]; exact hi)
        rw [tbl_get HKN.out hi] at t3
        obtain ⟨aS, rfl, t4⟩ := (HS.out.below HQ.out).at (show i < sl.length by have := HLS.out; omega)
        have hsr := HSR.out i hi
        have htv := HTV.out i
        have htl := HTL.out i hi
        generalize sl.getD i 0 = si at t4 hsr htv
        generalize D k i = dk at t3 htv
        have HTI := Aside0.mk htl
        have HDT := Aside0.mk htv
        have hw1 : IntKind.i64.wrap (1000000000 + si) = 1000000000 + si := IntWalk.i64_in _ (by omega)
        clear hI2 e hsr htl htv hi
        subst hr1
        obtain rfl := hr2.symm
        obtain ⟨dec, hdec⟩ : ∃ b, (dk == 1152921504606846976) = b := ⟨_, rfl⟩
        have HDC := Aside0.mk hdec
        go_upto_region 15 with (fail)
        go_quiet (fail)
        go_upto_region 17 with (fail)
        have hb5 := pw_below_drewN (Below.refl wo.heap.size wo) nq
        have u2 := pw_cell_below hb5 t2
        have u3 := pw_cell_below hb5 t3
        have u4' := pw_cell_below hb5 t4
        have O5 := Aside0.mk (own_move HO.out (w1 := wo.drewN nq) (fun b hb => by obtain ⟨cc, hcc⟩ := own_typed HO.out b hb; exact (blk_below hcc hb5).trans hcc.symm))
        have Q5 := Aside0.mk (below_step HQ.out hb5)
        generalize wo.drewN nq = W5 at *
        clear hb5 t1 t2 t3 t4 k0 hdec
        cases dec with
        | true =>
          have hdc := HDC.out
          have HTE := Aside0.mk (show thereV x k i = 1000000000 + si by rw [HDT.out, if_pos (show dk = Far from eq_of_beq hdc)])
          obtain ⟨i3, hi3, hy0, hy1, hy2⟩ := info_parts info3
          have HI3 := Aside0.mk (And.intro hi3 (And.intro hy0 (And.intro hy1 hy2)))
          clear hi3 hy0 hy1 hy2
          go_wp2_with (at_builtin; refine wpList_append_lies _ rfl _ _ 22 rfl w4.heap.size 3 i3 (.int .i64 0) 1 8 Try.underlying22 HI3.out.1 HI3.out.2.1 HI3.out.2.2.1 HI3.out.2.2.2 rfl (by decide) u11 i (intsR ((thereL x k).take i)) rfl (O5.out.alloc _) ⟨W5.heap.size, 0, none⟩ 1 1 [.int .i64 (1000000000 + si)] rfl rfl (World.news_of_block (cs := #[.int .i64 (1000000000 + si)]) (t := 3) (fr := (0, 0)) (heap_alloc_new W5 _)) (by simp [Value.oneCell']) (by omega) (by unfold maxLen; omega) (by omega) (by have := Q5.out.size; simp; omega) (W5.heap.size + 1) (by simp) ?_; intro gg cap w6 hown6 hgrow hat hlt; have HOWN6 := Aside0.mk hown6; have HW6 := Aside0.mk (below_grown2 Q5.out O5.out (Nat.le_refl _) hgrow); clear hown6 hgrow hat hlt)
          go_roundg (r1 - i)
          case measure => have := HK.out; have := HI.out; omega
          case rel =>
            refine ⟨i + 1, by go_num, ⟨by have := HK.out; have := HI.out; omega, by have := HI.out; omega⟩, ⟨?_⟩, HW6⟩
            rw [HTI.out, HTE.out]
            have := HOWN6.out
            simpa [intsR] using this
        | false =>
          have hdc := HDC.out
          have HTE := Aside0.mk (show thereV x k i = dk by rw [HDT.out, if_neg (fun e => by rw [e] at hdc; exact absurd hdc (by decide))])
          obtain ⟨i3, hi3, hy0, hy1, hy2⟩ := info_parts info3
          have HI3 := Aside0.mk (And.intro hi3 (And.intro hy0 (And.intro hy1 hy2)))
          clear hi3 hy0 hy1 hy2
          go_wp2_with (at_builtin; refine wpList_append_lies _ rfl _ _ 22 rfl w4.heap.size 3 i3 (.int .i64 0) 1 8 Try.underlying22 HI3.out.1 HI3.out.2.1 HI3.out.2.2.1 HI3.out.2.2.2 rfl (by decide) u11 i (intsR ((thereL x k).take i)) rfl (O5.out.alloc _) ⟨W5.heap.size, 0, none⟩ 1 1 [.int .i64 (dk)] rfl rfl (World.news_of_block (cs := #[.int .i64 (dk)]) (t := 3) (fr := (0, 0)) (heap_alloc_new W5 _)) (by simp [Value.oneCell']) (by omega) (by unfold maxLen; omega) (by omega) (by have := Q5.out.size; simp; omega) (W5.heap.size + 1) (by simp) ?_; intro gg cap w6 hown6 hgrow hat hlt; have HOWN6 := Aside0.mk hown6; have HW6 := Aside0.mk (below_grown2 Q5.out O5.out (Nat.le_refl _) hgrow); clear hown6 hgrow hat hlt)
          go_roundg (r1 - i)
          case measure => have := HK.out; have := HI.out; omega
          case rel =>
            refine ⟨i + 1, by go_num, ⟨by have := HK.out; have := HI.out; omega, by have := HI.out; omega⟩, ⟨?_⟩, HW6⟩
            rw [HTI.out, HTE.out]
            have := HOWN6.out
            simpa [intsR] using this
      · have q1 := eq_false hi
        have q2 := eq_false (show ¬ (i : Int) < (N : Int) by omega)
        have hiN : i = N := by have := HK.out; omega
        have hown := HO.out
        rw [hiN, show (thereL x k).take N = thereL x k from List.take_of_length_le (by rw [thereL_len, HNN.out]; exact Nat.le_refl _)] at hown
        have hIw := Iw_ownR hown (by rw [thereL_len, HNN.out]) (by rw [thereL_len]; have := hidN_range x.n; omega)
        obtain ⟨AU, kU, cU, rfl, hkU, _⟩ := hIw.form
        have HKU := Aside0.mk (hkU.trans ((thereL_len x k).trans HNN.out.symm))
        obtain ⟨aU, rfl, c0⟩ := hIw.at (show k < (thereL x k).length by rw [thereL_len, ← HNN.out]; exact HKN.out)
        rw [thereL_get x k (by rw [← HNN.out]; exact HKN.out), there_zero x HCL.out (by rw [← HNN.out]; exact HKN.out)] at c0
        have HU := Aside0.mk hIw
        have HXo := Aside0.mk (HX.out.below HQ.out)
        have HYo := Aside0.mk (HY.out.below HQ.out)
        have HTo := Aside0.mk (HT.out.below HQ.out)
        have HSo := Aside0.mk (HS.out.below HQ.out)
        have HAL := Aside0.mk (show allowedB N (madeL x) (thereL x k) = true from by rw [HNN.out]; exact there_allowed x HCL.out (by rw [← HNN.out]; exact HKN.out))
        have HLAW := Aside0.mk (fun (y : List Int) (hy : allowedB N (madeL x) y = true) i j (hi : i < N) (hj : j < N) => (show y.getD j 0 - y.getD i 0 ≤ D i j ∧ (-1000000000000 ≤ y.getD i 0 ∧ y.getD i 0 ≤ 1000000000000) ∧ (-1000000000000 ≤ y.getD j 0 ∧ y.getD j 0 ≤ 1000000000000) ∧ y.length = N from by
          rw [← HD.out, HNN.out]
          exact least_law x HCL.out (by rw [← HNN.out]; exact hy) (by rw [← HNN.out]; exact hi) (by rw [← HNN.out]; exact hj)))
        obtain rfl := HKU.out
        have k1 := HYo.out.c1
        clear hi hiN hown hIw hkU HO HQ HX HY HT HS HCL HTR HSR HTV HTL HKU
        go_wp2_with fail
        refine (allowedV HYo.out.bw HU.out true HAL.out).mono ?_
        rintro e w6 ⟨rfl, h6⟩
        replace HXo := Aside0.mk (HXo.out.below h6)
        replace HYo := Aside0.mk (HYo.out.below h6)
        replace HTo := Aside0.mk (HTo.out.below h6)
        replace HSo := Aside0.mk (HSo.out.below h6)
        replace HU := Aside0.mk (HU.out.below h6)
        clear h6 k0 k1 c0
        have m0 := HXo.out.c0
        have m1 := HXo.out.c1
        have m2 := HXo.out.c2
        have m3 := HXo.out.c3
        go_wp2_with fail
        refine (hiddenV HXo.out.nw).mono ?_
        rintro e w7 ⟨u7, rfl, r7, h7⟩
        have HB := Aside0.mk (below_step HXo.out.bel h7)
        replace HYo := Aside0.mk (HYo.out.below h7)
        replace HTo := Aside0.mk (HTo.out.below h7)
        replace HSo := Aside0.mk (HSo.out.below h7)
        replace HU := Aside0.mk (HU.out.below h7)
        obtain ⟨A7, k7, c7, rfl, hk7, _⟩ := r7.form
        subst hk7
        have HH := Aside0.mk r7
        clear r7 h7 m0 m1 m2 m3 HXo
        go_wp2_with fail
        have hb8 := (Below.refl _ w7).alloc (Nat.le_refl _) (.cells #[.slice AS kU cs, .slice A7 (hidL x.n x.hs).length c7, .slice (some aU) kU cU] 22)
        have hblk := blk_new w7 (.cells #[.slice AS kU cs, .slice A7 (hidL x.n x.hs).length c7, .slice (some aU) kU cU] 22)
        replace HB := Aside0.mk (below_step HB.out hb8)
        replace HYo := Aside0.mk (HYo.out.below hb8)
        replace HTo := Aside0.mk (HTo.out.below hb8)
        replace HSo := Aside0.mk (HSo.out.below hb8)
        replace HU := Aside0.mk (HU.out.below hb8)
        replace HH := Aside0.mk (HH.out.below hb8)
        clear hb8
        generalize hg8 : w7.heap.size = g8 at *
        generalize w7.alloc (.cells #[.slice AS kU cs, .slice A7 (hidL x.n x.hs).length c7, .slice (some aU) kU cU] 22) = W8 at *
        have HYS := Aside0.mk (show ∀ r, r < 3 → ∃ (y : List Int) (A : Option Addr) (k c : Nat), W8.cell? ⟨g8, r, none⟩ = some (.slice A k c) ∧ Iw W8 y (.slice A k c) from fun r hr => by
          match r, hr with
          | 0, _ => exact ⟨_, _, _, _, (blk_cell hblk 0).trans rfl, HSo.out⟩
          | 1, _ => exact ⟨_, _, _, _, (blk_cell hblk 1).trans rfl, HH.out⟩
          | 2, _ => exact ⟨_, _, _, _, (blk_cell hblk 2).trans rfl, HU.out⟩
          | r + 3, h => omega)
        clear hg8 hblk HSo HU HH HAL
        go_loopg [123] (3 + 1) (fun kq v123 wq => ∃ (r : Nat), v123 = .int .i64 (r : Int) ∧ Aside0 (r + kq = 3 + 1 ∧ r ≤ 3) ∧ Aside0 (Below W8.heap.size W8 wq))
        case atStart => exact ⟨0, rfl, ⟨by omega, by omega⟩, ⟨Below.refl _ _⟩⟩
        case round =>
          obtain ⟨r, rfl, HRR, HQ⟩ := hrel
          obtain ⟨wi, rfl⟩ : ∃ wi : World, wi = wr := ⟨_, rfl⟩
          have hr4 : r + 1 ≤ 4 := by have := HRR.out; omega
          by_cases hr : r < 3
          · have q1 := eq_true hr
            have q2 := eq_true (show (r : Int) < 3 by omega)
            have q3 := eq_true (show (0 : Int) ≤ (r : Int) by omega)
            have q3b : decide ((r : Int) < 3) = true := decide_eq_true (by omega)
            have HRI := Aside0.mk hr
            obtain ⟨y, A9, k9, c9, t9, hI9⟩ := HYS.out r hr
            replace t9 := pw_cell_below HQ.out t9
            have HI9 := Aside0.mk (hI9.below HQ.out)
            have k0 := (HYo.out.below HQ.out).c0
            have k1 := (HYo.out.below HQ.out).c1
            clear hI9 hr
            go_wp2_with fail
            obtain ⟨al, hal⟩ : ∃ b, allowedB kU (madeL x) y = b := ⟨_, rfl⟩
            have HAB := Aside0.mk hal
            clear hal
            refine (allowedV (HYo.out.below HQ.out).bw HI9.out al HAB.out).mono ?_
            rintro e w10 ⟨rfl, h10⟩
            replace HI9 := Aside0.mk (HI9.out.below h10)
            replace HQ := Aside0.mk (below_step HQ.out h10)
            clear h10 t9 k0 k1
            cases al with
            | false =>
              go_wp2_with fail
              go_roundg (3 - r)
              case measure => have := HRR.out; have := HRI.out; omega
              case rel => exact ⟨r + 1, by go_num, ⟨by have := HRR.out; have := HRI.out; omega, by have := HRI.out; omega⟩, HQ⟩
            | true =>
              go_wp2_with fail
              go_loopg [15] (kU + 1) (fun kq v15 wq => ∃ (i : Nat), v15 = .int .i64 (i : Int) ∧ Aside0 (i + kq = kU + 1 ∧ i ≤ kU) ∧ Aside0 (Below W8.heap.size W8 wq) ∧ Aside0 (Iw wq y (.slice A9 k9 c9)))
              case atStart => exact ⟨0, rfl, ⟨by omega, by omega⟩, HQ, HI9⟩
              case round =>
                clear HQ HI9
                obtain ⟨i, rfl, HK, HQ, HI9⟩ := hrel
                obtain ⟨wj, rfl⟩ : ∃ wj : World, wj = wr := ⟨_, rfl⟩
                have hi9 : i + 1 ≤ 9 := by have := HK.out; have := HR.out; omega
                have k0 := (HYo.out.below HQ.out).c0
                by_cases hi : i < kU
                · have q1 := eq_true hi
                  have q2 := eq_true (show (i : Int) < (kU : Int) by omega)
                  have q4 := eq_true (show (0 : Int) ≤ (i : Int) by omega)
                  have HII := Aside0.mk hi
                  clear hi
                  go_wp2_with fail
                  clear k0
                  go_loopg [16] (kU + 1) (fun kr v16 wq => ∃ (j : Nat), v16 = .int .i64 (j : Int) ∧ Aside0 (j + kr = kU + 1 ∧ j ≤ kU) ∧ Aside0 (Below W8.heap.size W8 wq) ∧ Aside0 (Iw wq y (.slice A9 k9 c9)))
                  case atStart => exact ⟨0, rfl, ⟨by omega, by omega⟩, HQ, HI9⟩
                  case round =>
                    clear HQ HI9
                    obtain ⟨j, rfl, HL, HQ, HI9⟩ := hrel
                    have hj9 : j + 1 ≤ 9 := by have := HL.out; have := HR.out; omega
                    have k0 := (HYo.out.below HQ.out).c0
                    by_cases hj : j < kU
                    · have q5 := eq_true hj
                      have q6 := eq_true (show (j : Int) < (kU : Int) by omega)
                      have q7 := eq_true (show (0 : Int) ≤ (j : Int) by omega)
                      have HJJ := Aside0.mk hj
                      obtain ⟨l1, l2, l3, l4⟩ := HLAW.out y HAB.out i j HII.out hj
                      obtain ⟨a6, B6, r6, d6, rfl, t0, hr6, hI6⟩ := (HTo.out.below HQ.out).row (show i < (tblL kU D).length by rw [tblL_len]; exact HII.out)
                      rw [tbl_row_len HII.out] at hr6
                      subst hr6
                      obtain ⟨b6, rfl, t2⟩ := hI6.at (show j < _ by rw [tbl_row_len HII.out]; exact hj)
                      rw [tbl_get HII.out hj] at t2
                      obtain ⟨A', k', c', e', hk', _⟩ := HI9.out.form
                      have hk9 : k9 = r6 := by injection e' with _ e2 _; omega
                      clear e' hk'
                      subst hk9
                      obtain ⟨a9, rfl, t3⟩ := HI9.out.at (show i < y.length by have := HII.out; omega)
                      obtain ⟨ax, e, t4⟩ := HI9.out.at (show j < y.length by omega)
                      obtain rfl : a9 = ax := by injection e
                      generalize y.getD i 0 = yi at *
                      generalize y.getD j 0 = yj at *
                      generalize D i j = dij at *
                      have g0 : IntKind.i64.wrap (yj - yi) = yj - yi := IntWalk.i64_in _ (by omega)
                      have g1 : decide (dij < yj - yi) = false := decide_eq_false (by omega)
                      have g2 := eq_false (show ¬ dij < yj - yi by omega)
                      clear hI6 e l1 l2 l3 l4 hj
                      go_upto_region 32 with (fail)
                      go_quiet (fail)
                      go_wp2_with fail
                      go_roundg (k9 - j)
                      case measure => have := HL.out; have := HJJ.out; omega
                      case rel => exact ⟨j + 1, by go_num, ⟨by have := HL.out; have := HJJ.out; omega, by have := HJJ.out; omega⟩, ⟨pw_below_drewN HQ.out _⟩, ⟨HI9.out.below (pw_below_drewN (Below.refl _ _) _)⟩⟩
                    · have q5 := eq_false hj
                      have q6 := eq_false (show ¬ (j : Int) < (kU : Int) by omega)
                      clear hj
                      go_wp2_with fail
                      go_roundg (kU - i)
                      case measure => have := HK.out; have := HII.out; omega
                      case rel => exact ⟨i + 1, by go_num, ⟨by have := HK.out; have := HII.out; omega, by have := HII.out; omega⟩, HQ, HI9⟩
                · have q5 := eq_false hi
                  have q6 := eq_false (show ¬ (i : Int) < (kU : Int) by omega)
                  clear hi
                  go_wp2_with fail
                  go_roundg (3 - r)
                  case measure => have := HRR.out; have := HRI.out; omega
                  case rel => exact ⟨r + 1, by go_num, ⟨by have := HRR.out; have := HRI.out; omega, by have := HRI.out; omega⟩, HQ⟩
          · have q1 := eq_false hr
            have q2 := eq_false (show ¬ (r : Int) < 3 by omega)
            have q3b : decide ((r : Int) < 3) = false := decide_eq_false (by omega)
            have HF := Aside0.mk (below_step HB.out HQ.out)
            clear hr
            go_wp2_with fail
            go_ret
            exact ⟨rfl, HF.out⟩
end Go.Proofs.Ytlokeimfmbgigaa.Bk

namespace Go.Proofs.Ytlokeimfmbgigaa.betweenLeast
open Go.ChangeShapes Go.WideShapes Go.ChangeAt Go.RowKit
open Go.ChangeMaps (open_string shut_string)
set_option linter.unusedVariables false

theorem own : ownKnob Try.prog.godebug = none := by kernel_rfl
theorem laidOut : laidOutB Try.prog = true := by kernel_rfl

set_option maxRecDepth 100000 in
theorem lifted (os : Os) (started : os.Started) (H : Type) (enc : TypeId × Value → H) :
    ReturnsInHanded {} Try.checked os 6 .any (Rows.betweenLeastSpec.pre6 enc Try.prog Try.f6 Rows.betweenLeastRow.domain false) (Rows.betweenLeastSpec.post enc Try.prog Try.f6 false true false false) := by
  refine returnsInHanded_of_change (C := Try.checked) own started (by kernel_rfl) Try.func6
    (ChangeSpec.witness6 (enc := enc) (C := Try.checked) false ⟨#[], #[.agg #[.int .i64 0, .slice none 0 0, .slice none 0 0, .int .i64 0], .int .i64 0], []⟩ 8 (by kernel_rfl) (by kernel_rfl) (by kernel_rfl) (by kernel_rfl)) ?_
  intro W base args ds gs before hval0 hW hcnd _
  have hval : ∀ (j : Nat) t v, Try.f6.params[j]? = some t → args[j]? = some v → Value.okWide Try.prog W .any base t v := hval0
  have hW' := hW
  obtain ⟨p, q, hA0, hV, rfl, hfz, hnd⟩ := hW
  have hA : DataW.TrodAll enc Try.prog W 0 (fun _ => true) true Try.f6.params.toList args.toList ds p := hA0
  rw [Try.params6] at hA hval
  obtain ⟨v0, vs0, d0, ds0, p0, q0, hargs, rfl, rfl, h0, r0⟩ := trodAll_cons hA
  obtain ⟨v1, vs1, d1, ds1, p1, q1, rfl, rfl, rfl, h1, r1⟩ := trodAll_cons r0
  obtain ⟨rfl, rfl, rfl⟩ := trodAll_nil r1
  obtain rfl : args = #[v0, v1] := by cases args; simp_all
  obtain ⟨rfl, rfl⟩ := trodVars_none hV
  have k0 := h0
  have lt0 : ∀ x ∈ p0, x.block < W.heap.size := by obtain ⟨m, hm⟩ := k0; exact DataW.trod_lt m _ _ _ hm
  obtain ⟨x0, w0⟩ := Bk.open_nums (hval 0 25 v0 rfl rfl) h0
  obtain ⟨a1, rfl, rfl, rfl, w1⟩ := open_int Try.underlying3 (hval 1 3 v1 rfl rfl) h1
  clear hA0 hval0
  refine (Bk.betweenLeast_calls x0 v0 a1 W w0 (Bk.I64_of_wf w1)).mono fun e W' ⟨he, bel⟩ => ?_
  subst he
  exact ⟨_, rfl, _, _, _, [], _, [], hW', trodAll_mk1 (shut_bool Try.underlying4 _), (trodAll_cons_mk (Below.trod laidOut (by kernel_rfl) (of_decide_eq_true (by kernel_rfl)) k0 bel lt0) (trodAll_cons_mk (shut_int Try.underlying3 w1) trodAll_mk0)), rfl, bel.frame _, fun h => by cases h⟩

theorem over : Rows.betweenLeastRow.holds Try.pinned (OpenSpec.ofChange Rows.betweenLeastSpec) :=
  OpenClaim.holds_of_wide 6 Try.f6 rfl rfl rfl rfl rfl rfl rfl ⟨rfl, rfl, rfl, rfl, rfl⟩ rfl rfl rfl rfl rfl (by kernel_rfl) Try.func6 (by kernel_rfl)
    (of_decide_eq_true (by kernel_rfl)) (by unfold Func.isWrapper; first | (rw [if_pos (by decide +kernel)]; kernel_rfl) | (rw [if_neg (by decide +kernel)]; exact ⟨rfl, rfl⟩))
    (fun os started H enc _ => lifted os started H enc)

theorem proved : Rows.BetweenLeastSaid := over
#print axioms proved
end Go.Proofs.Ytlokeimfmbgigaa.betweenLeast
