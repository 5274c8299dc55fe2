/- Made, With, few; what a reading tells. -/
import Derived.Test.YtlokeimfmbgigaaZ6
import Derived.StillTailTactics
import Derived.Deep.RegionHeld3
import Derived.Deep.AppendLies
import Derived.Test.YtlokeimfmbgigaaZ1
import Derived.Test.YtlokeimfmbgigaaZ4
import Derived.Deep.Slices
import Derived.Laws.IdiomArrays
import Derived.ProofKit
import Derived.OpenShut
import Derived.ChangeOld
set_option linter.unusedVariables false
set_option linter.unusedSimpArgs false
set_option linter.unusedVariables false
namespace Go.Proofs.Ytlokeimfmbgigaa.Bk
open Go.RowKit Go.Shelf Go.Proofs.YtlokeimfmbgigaaW.PrintWords Go.Proofs.YtlokeimfmbgigaaW.PrintLast Go.Proofs.YtlokeimfmbgigaaW.PrintMore
open Go.Proofs.Ytlokeimfmbgigaa.Ref Go.Proofs.Ytlokeimfmbgigaa.Pl

def cells3 (b : S35) : List Value := [.int .i64 b.f0, .int .i64 b.f1, .int .i64 b.f2]
def flat (l : List S35) : List Value := l.flatMap cells3
theorem flat_nil : flat [] = [] := rfl
theorem flat_cons (b : S35) (l : List S35) : flat (b :: l) = .int .i64 b.f0 :: .int .i64 b.f1 :: .int .i64 b.f2 :: flat l := rfl
theorem flat_len (l : List S35) : (flat l).length = l.length * 3 := by
  induction l with
  | nil => rfl
  | cons b l ih => rw [flat_cons]; simp only [List.length_cons, ih]; omega
theorem flat_append (l m : List S35) : flat (l ++ m) = flat l ++ flat m := by simp [flat]
theorem flat_snoc (l : List S35) (b : S35) : flat (l ++ [b]) = flat l ++ cells3 b := by rw [flat_append]; simp [flat]
theorem flat_get (l : List S35) : ∀ (i : Nat), i < l.length → (flat l)[i * 3]? = some (.int .i64 (l.getD i z35).f0) ∧ (flat l)[i * 3 + 1]? = some (.int .i64 (l.getD i z35).f1) ∧ (flat l)[i * 3 + 2]? = some (.int .i64 (l.getD i z35).f2) := by
  induction l with
  | nil => intro i h; simp at h
  | cons b l ih =>
    intro i h
    rw [flat_cons]
    cases i with
    | zero => exact ⟨rfl, rfl, rfl⟩
    | succ i =>
      have := ih i (by simpa using h)
      rw [show (i + 1) * 3 = i * 3 + 1 + 1 + 1 by omega]
      simp only [List.getElem?_cons_succ, List.getD_cons_succ]
      exact this
theorem flat_set (l : List S35) : ∀ (i : Nat) (t : Int), i < l.length → flat (l.set i ⟨(l.getD i z35).f0, (l.getD i z35).f1, t⟩) = (flat l).set (i * 3 + 2) (.int .i64 t) := by
  induction l with
  | nil => intro i t h; simp at h
  | cons b l ih =>
    intro i t h
    cases i with
    | zero => rfl
    | succ i =>
      have := ih i t (by simpa using h)
      rw [show (i + 1) * 3 + 2 = (i * 3 + 2) + 1 + 1 + 1 by omega]
      simp only [List.set_cons_succ, List.getD_cons_succ, flat_cons]
      rw [this]
theorem flat_one (l : List S35) : ∀ u ∈ flat l, u.oneCell' = true := by
  induction l with
  | nil => intro u h; simp [flat] at h
  | cons b l ih =>
    intro u h
    rw [flat_cons] at h
    simp only [List.mem_cons] at h
    rcases h with rfl | rfl | rfl | h
    · rfl
    · rfl
    · rfl
    · exact ih u h
theorem reps_flat (w : World) (base : Nat) (ok : Nat → Prop) (l : List S35) : Reps (k35.M w base ok) 3 l (flat l) := by
  induction l with
  | nil => exact Reps.none _ _
  | cons b l ih =>
    refine ⟨flat_len _, fun j p hj => ?_⟩
    cases j with
    | zero =>
      simp only [List.getElem?_cons_zero, Option.some.injEq] at hj
      subst hj
      rw [flat_cons]
      exact k35_mkM _ _ _ _
    | succ j =>
      have := ih.2 j p (by simpa using hj)
      rw [flat_cons, show (j + 1) * 3 = j * 3 + 1 + 1 + 1 by omega]
      exact this
theorem R_of_flat {w : World} {base : Nat} {v : Value} {l : List S35} (h : w.ownsRow base 35 3 v l.length (flat l)) : Kd.R k35 35 w base (fun _ => True) v l :=
  ⟨fun _ _ => trivial, flat l, h, reps_flat _ _ _ _⟩
theorem Bw_own {w : World} {base : Nat} {n : Int} {A : Option Addr} {c k : Nat} {l : List S35} (h : w.ownsRow base 35 3 (.slice A k c) k (flat l)) (hk : k = l.length) : Bw w n l (.agg #[.int .i64 n, .slice A k c]) := by
  subst hk
  obtain ⟨A', c', e, hc, hC⟩ := Kd.R_reads (R_of_flat h)
  injection e with e1 e2 e3
  subst e1 e3
  exact ⟨A, c, rfl, hc, hC⟩
theorem C_cells {w : World} {A : Option Addr} {l : List S35} (h : Kd.C k35 w A l.length l) (hpos : 0 < l.length) : ∃ ad, A = some ad ∧ ∀ j u, (flat l)[j]? = some u → w.cell? (ad.add j) = some u := by
  obtain ⟨ad, _, e, _, _, _⟩ := Kd.C_get h z35 0 (by omega) (by omega)
  refine ⟨ad, e, fun j u hj => ?_⟩
  have hlt : j < l.length * 3 := by have := (List.getElem?_eq_some_iff.1 hj).1; rwa [flat_len] at this
  have hi : j / 3 < l.length := by omega
  obtain ⟨ad', c, e', _, hK, hc0⟩ := Kd.C_get h z35 ((j / 3 : Nat) : Int) (by omega) (by omega)
  obtain rfl : ad = ad' := by rw [e] at e'; injection e'
  have hc : ∀ r u, c[r]? = some u → w.cell? (ad.add (((j / 3 : Nat) : Int).toNat * 3 + r)) = some u := hc0
  obtain rfl := k35_open hK
  rw [Int.toNat_natCast] at hc
  obtain ⟨g0, g1, g2⟩ := flat_get l (j / 3) hi
  have hr : j = j / 3 * 3 ∨ j = j / 3 * 3 + 1 ∨ j = j / 3 * 3 + 2 := by omega
  rcases hr with hr | hr | hr
  · rw [hr] at hj ⊢; rw [g0] at hj; rw [← hj]; exact hc 0 _ rfl
  · rw [hr] at hj ⊢; rw [g1] at hj; rw [← hj]; exact hc 1 _ rfl
  · rw [hr] at hj ⊢; rw [g2] at hj; rw [← hj]; exact hc 2 _ rfl
set_option maxHeartbeats 4000000 in
theorem few_calls (n : Int) (l : List S35) (v : Value) (w : World) (h : Bw w n l v) : Calls Try.prog 21 #[v] w fun e w' => ∃ u, e = .returned u ∧ Bw w' n (l.take 6) u ∧ Below w.heap.size w w' := by
  obtain ⟨A, c, rfl, h1, h2⟩ := h
  have HC := Aside0.mk h2
  obtain ⟨m, hm⟩ : ∃ m : Nat, m = min l.length 6 := ⟨_, rfl⟩
  have hmin : (if 6 < (l.length : Int) then 6 else (l.length : Int)) = (m : Int) := by split <;> omega
  have q1 : (m : Int) ≤ (c : Int) := by omega
  have q2 : (0 : Int) ≤ (m : Int) := by omega
  have HM := Aside0.mk hm
  have H1 := Aside0.mk h1
  clear h2 hm h1
  go_enter Try.func21, Try.ntmps21
  go_wp2_with fail
  have hB := below_alloc (below_alloc (Below.refl w.heap.size w) (.cells #[.int .i64 n, .slice A l.length c] 30)) (.cells #[.int .i64 0, .slice none 0 0] 30)
  have b0 := blk_alloc (blk_new w (.cells #[.int .i64 n, .slice A l.length c] 30)) (.cells #[.int .i64 0, .slice none 0 0] 30)
  have b1 := blk_new (w.alloc (.cells #[.int .i64 n, .slice A l.length c] 30)) (.cells #[.int .i64 0, .slice none 0 0] 30)
  rw [World.size_alloc] at b1
  generalize (w.alloc (.cells #[.int .i64 n, .slice A l.length c] 30)).alloc (.cells #[.int .i64 0, .slice none 0 0] 30) = W at *
  have HB := Aside0.mk hB
  have B1 := Aside0.mk b1
  have k0 : W.cell? ⟨w.heap.size, 0, none⟩ = some (.int .i64 n) := (blk_cell b0 0).trans rfl
  have k1 : W.cell? ⟨w.heap.size, 1, none⟩ = some (.slice A l.length c) := (blk_cell b0 1).trans rfl
  have f0 := blk_frozen b1 0
  have f1 := blk_frozen b1 1
  have k2 : W.cell? ⟨w.heap.size + 1, 0, none⟩ = some (.int .i64 0) := (blk_cell b1 0).trans rfl
  have k3 : W.cell? ⟨w.heap.size + 1, 1, none⟩ = some (.slice none 0 0) := (blk_cell b1 1).trans rfl
  clear hB b0 b1
  refine wp_region_still_tail 10 (by kernel_rfl) (by kernel_rfl) ?_
  simp only [List.take_succ_cons, List.take_zero, List.drop_succ_cons, List.drop_zero]
  repeat still_step
  refine wpStill_nil ?_
  go_wp2_with fail
  have hG := blk_drew (blk_put (cs := #[.int .i64 n, .slice none 0 0]) (blk_put (cs := #[.int .i64 0, .slice none 0 0]) B1.out 0 (.int .i64 n) rfl) 1 (.slice A m c) rfl)
  refine bodyPost_ret (results_cell_row rfl _ _ (w.heap.size + 1) 30 #[.int .i64 n, .slice A m c] (0, 0) _ rfl hG Try.underlying30 rfl (by kernel_rfl)) rfl ?_
  have hX := below_drew ((HB.out.setCell (p := ⟨w.heap.size + 1, 0, none⟩) (by simp only; omega) (.int .i64 n)).setCell (p := ⟨w.heap.size + 1, 1, none⟩) (by simp only; omega) (.slice A m c))
  have hl : (l.take 6).length = m := by rw [List.length_take, HM.out]; omega
  refine ⟨_, rfl, ⟨A, c, by rw [hl], by have := H1.out; rw [List.length_take]; omega, ?_⟩, hX⟩
  have := C_prefix (Kd.C_below HC.out hX) m (by have := HM.out; omega)
  rw [hl]
  rw [show l.take 6 = l.take m from ?_]
  · exact this
  · rw [HM.out]
    by_cases h6 : l.length ≤ 6
    · rw [Nat.min_eq_left h6, List.take_of_length_le h6, List.take_of_length_le (Nat.le_refl _)]
    · rw [Nat.min_eq_right (by omega)]
theorem cell_alloc_far {w : World} {p : Addr} {v : Value} (h : w.cell? p = some v) (o : Obj) : (w.alloc o).cell? p = some v := pw_cell_below ((Below.refl _ w).alloc (Nat.le_refl _) o) h
theorem gcell {X Y : World} {g0 : Nat} (hg : X.grownBy Y (some g0)) {p : Addr} {v : Value} (h : X.cell? p = some v) (hne : p.block < g0) : Y.cell? p = some v :=
  (hg.cell_far p (World.block_lt_of_cell? X p h) (by simp; omega)).trans h
theorem gblk {X Y : World} {g0 : Nat} (hg : X.grownBy Y (some g0)) {k : Nat} {o : Obj} (h : X.heap[k]? = some o) (hne : k ≠ g0) : Y.heap[k]? = some o := blk_grown h hg (by simpa using hne)
theorem ocell {X Y Z : World} {base : Nat} {e : TypeId} {size n : Nat} {v : Value} {xs : List Value} (hown : Z.ownsRow base e size v n xs) (hg : X.grownBy Y v.ownBlock) {p : Addr} {u : Value} (h : X.cell? p = some u) (hne : p.block < base) : Y.cell? p = some u :=
  (hg.cell_far p (World.block_lt_of_cell? X p h) (fun e => by have := own_base hown _ e.symm; omega)).trans h
theorem oblk {X Y Z : World} {base : Nat} {e : TypeId} {size n : Nat} {v : Value} {xs : List Value} (hown : Z.ownsRow base e size v n xs) (hg : X.grownBy Y v.ownBlock) {k : Nat} {o : Obj} (h : X.heap[k]? = some o) (hne : k < base) : Y.heap[k]? = some o :=
  blk_grown h hg (fun e => by have := own_base hown _ e.symm; omega)
theorem empty_own {w : World} {base g : Nat} (hg : base ≤ g) (h : w.heap[g]? = some (.cells #[] 35 (0, 0))) : w.ownsRow base 35 3 (.slice (some ⟨g, 0, none⟩) 0 0) 0 [] :=
  ⟨rfl, .inr ⟨g, 0, #[], rfl, hg, h, Nat.le_refl _, by unfold maxLen; omega, rfl, rfl⟩⟩
theorem cell_far2 {w : World} {g : Nat} {p : Addr} {v : Value} (h : w.cell? p = some v) (hne : p.block ≠ g) (u1 u2 : Value) : ((w.setCell ⟨g, 0, none⟩ u1).setCell ⟨g, 1, none⟩ u2).cell? p = some v := by
  have h0 : ∀ j, (⟨g, j, none⟩ : Addr) ≠ p := fun j e => by rw [← e] at hne; exact hne rfl
  exact (World.cell?_setCell_other _ _ _ _ (h0 1)).trans ((World.cell?_setCell_other _ _ _ _ (h0 0)).trans h)
theorem info35 : (Try.prog.info? 35).map (fun i => (i.zero, i.size, i.bytes)) = some (some (.agg #[.int .i64 0, .int .i64 0, .int .i64 0]), 3, 24) := by kernel_rfl
set_option maxHeartbeats 4000000 in
theorem with_pos (n : Int) (l : List S35) (ad : Addr) (m c : Nat) (x0 x1 x2 : Int) (w : World) (hcell : ∀ j u, (flat l)[j]? = some u → w.cell? (ad.add j) = some u) (hl : m ≤ 1000) (hpos : 0 < m) (hml : Aside0 (m = l.length)) :
    Calls Try.prog 16 #[.agg #[.int .i64 n, .slice (some ad) m c], .agg #[.int .i64 x0, .int .i64 x1, .int .i64 x2]] w fun e w' => ∃ u, e = .returned u ∧ Bw w' n (l ++ [⟨x0, x1, x2⟩]) u ∧ Below w.heap.size w w' := by
  obtain ⟨i0, hi0, hz0, hz1, hz2⟩ := info_parts info35
  have HC := Aside0.mk hcell
  have HML := hml
  clear hcell hml
  go_enter Try.func16, Try.ntmps16
  go_wp2_with fail
  have hB := below_alloc (below_alloc (below_alloc (Below.refl w.heap.size w) (.cells #[.int .i64 n, .slice (some ad) m c] 30)) (.cells #[.int .i64 x0, .int .i64 x1, .int .i64 x2] 35)) (.cells #[.int .i64 0, .slice none 0 0] 30)
  have b0 := blk_alloc (blk_alloc (blk_new w (.cells #[.int .i64 n, .slice (some ad) m c] 30)) (.cells #[.int .i64 x0, .int .i64 x1, .int .i64 x2] 35)) (.cells #[.int .i64 0, .slice none 0 0] 30)
  have b1 := blk_alloc (blk_new (w.alloc (.cells #[.int .i64 n, .slice (some ad) m c] 30)) (.cells #[.int .i64 x0, .int .i64 x1, .int .i64 x2] 35)) (.cells #[.int .i64 0, .slice none 0 0] 30)
  have b2 := blk_new ((w.alloc (.cells #[.int .i64 n, .slice (some ad) m c] 30)).alloc (.cells #[.int .i64 x0, .int .i64 x1, .int .i64 x2] 35)) (.cells #[.int .i64 0, .slice none 0 0] 30)
  simp only [World.size_alloc] at b1 b2
  generalize ((w.alloc (.cells #[.int .i64 n, .slice (some ad) m c] 30)).alloc (.cells #[.int .i64 x0, .int .i64 x1, .int .i64 x2] 35)).alloc (.cells #[.int .i64 0, .slice none 0 0] 30) = W at *
  have HB := Aside0.mk hB
  have B2 := Aside0.mk b2
  have k0 : W.cell? ⟨w.heap.size, 0, none⟩ = some (.int .i64 n) := (blk_cell b0 0).trans rfl
  have k1 : W.cell? ⟨w.heap.size, 1, none⟩ = some (.slice (some ad) m c) := (blk_cell b0 1).trans rfl
  have k2 : W.cell? ⟨w.heap.size + 1, 0, none⟩ = some (.int .i64 x0) := (blk_cell b1 0).trans rfl
  have k3 : W.cell? ⟨w.heap.size + 1, 1, none⟩ = some (.int .i64 x1) := (blk_cell b1 1).trans rfl
  have k4 : W.cell? ⟨w.heap.size + 1, 2, none⟩ = some (.int .i64 x2) := (blk_cell b1 2).trans rfl
  clear hB b0 b1 b2
  have k0a := cell_alloc_far k0 (.cells #[] 35)
  have k1a := cell_alloc_far k1 (.cells #[] 35)
  have k2a := cell_alloc_far k2 (.cells #[] 35)
  have k3a := cell_alloc_far k3 (.cells #[] 35)
  have k4a := cell_alloc_far k4 (.cells #[] 35)
  have k0b := cell_alloc_far k0 (.cells #[.int .i64 x0, .int .i64 x1, .int .i64 x2] 35)
  have k1b := cell_alloc_far k1 (.cells #[.int .i64 x0, .int .i64 x1, .int .i64 x2] 35)
  have k2b := cell_alloc_far k2 (.cells #[.int .i64 x0, .int .i64 x1, .int .i64 x2] 35)
  have k3b := cell_alloc_far k3 (.cells #[.int .i64 x0, .int .i64 x1, .int .i64 x2] 35)
  have k4b := cell_alloc_far k4 (.cells #[.int .i64 x0, .int .i64 x1, .int .i64 x2] 35)
  have k0ab := cell_alloc_far k0a (.cells #[.int .i64 x0, .int .i64 x1, .int .i64 x2] 35)
  have k1ab := cell_alloc_far k1a (.cells #[.int .i64 x0, .int .i64 x1, .int .i64 x2] 35)
  have k2ab := cell_alloc_far k2a (.cells #[.int .i64 x0, .int .i64 x1, .int .i64 x2] 35)
  have k3ab := cell_alloc_far k3a (.cells #[.int .i64 x0, .int .i64 x1, .int .i64 x2] 35)
  have k4ab := cell_alloc_far k4a (.cells #[.int .i64 x0, .int .i64 x1, .int .i64 x2] 35)
  have k0ba := cell_alloc_far k0b (.cells #[] 35)
  have k1ba := cell_alloc_far k1b (.cells #[] 35)
  have k2ba := cell_alloc_far k2b (.cells #[] 35)
  have k3ba := cell_alloc_far k3b (.cells #[] 35)
  have k4ba := cell_alloc_far k4b (.cells #[] 35)
  have HKW := Aside0.mk (show w.heap.size + 1 + 1 < W.heap.size from World.block_lt_of_cell? W ⟨w.heap.size + 1 + 1, 0, none⟩ ((blk_cell B2.out 0).trans rfl))
  have kk := Aside0.mk (And.intro k0 (And.intro k2 (And.intro k3 k4)))
  have hcW := Aside0.mk (fun j u h => pw_cell_below HB.out (HC.out j u h))
  have hfl := Aside0.mk (show (flat l).length = m * 3 from by rw [flat_len, HML.out])
  have hfo := Aside0.mk (flat_one l)
  have kk1 := Aside0.mk k1
  go_region_held3 (fun w' => w'.cell? ⟨w.heap.size, 0, none⟩ = some (.int .i64 n) ∧ w'.cell? ⟨w.heap.size, 1, none⟩ = some (.slice (some ad) m c) ∧ w'.cell? ⟨w.heap.size + 1, 0, none⟩ = some (.int .i64 x0) ∧ w'.cell? ⟨w.heap.size + 1, 1, none⟩ = some (.int .i64 x1) ∧ w'.cell? ⟨w.heap.size + 1, 2, none⟩ = some (.int .i64 x2)) (first | exact ⟨cell_far2 e0 (by simp only; omega) _ _, cell_far2 e4 (by simp only; omega) _ _, cell_far2 e1 (by simp only; omega) _ _, cell_far2 e2 (by simp only; omega) _ _, cell_far2 e3 (by simp only; omega) _ _⟩ | exact ⟨e0, e4, e1, e2, e3⟩ | exact ⟨c0, c4, c1, c2, c3⟩ | exact ⟨cell_alloc_far c0 _, cell_alloc_far c4 _, cell_alloc_far c1 _, cell_alloc_far c2 _, cell_alloc_far c3 _⟩ | exact ⟨k0a, k1a, k2a, k3a, k4a⟩ | exact ⟨k0b, k1b, k2b, k3b, k4b⟩ | exact ⟨k0ab, k1ab, k2ab, k3ab, k4ab⟩ | exact ⟨k0ba, k1ba, k2ba, k3ba, k4ba⟩ | go_keep)
    (first
      | ((refine step_append_lies _ (by rfl) _ _ _ (by rfl) W.heap.size 35 i0 _ 3 24 Try.underlying28 hi0 hz0 hz1 hz2 rfl (by omega) _ 0 [] (by rfl) (empty_own (w := (W.alloc (.cells #[] 35)).drew) (base := W.heap.size) (g := W.heap.size) (by simp) (by exact blk_new W _)) ad m c (flat l) (by rfl) (hfl.out) (fun j u hj => (cell_alloc_far (hcW.out j u hj) _)) hfo.out (by omega) (by unfold maxLen; omega) (by omega) (by simp; try omega) _ rfl ?_; intro g1 cap1 w1 hown1 hgrow hat1 hlt1; rw [List.nil_append] at hown1; rw [Nat.zero_add] at hown1 ⊢; have c0 := gcell hgrow (cell_alloc_far kk.out.1 _) (by have := HKW.out; simp only; omega); have c1 := gcell hgrow (cell_alloc_far kk.out.2.1 _) (by have := HKW.out; simp only; omega); have c2 := gcell hgrow (cell_alloc_far kk.out.2.2.1 _) (by have := HKW.out; simp only; omega); have c3 := gcell hgrow (cell_alloc_far kk.out.2.2.2 _) (by have := HKW.out; simp only; omega); have c4 := gcell hgrow (cell_alloc_far kk1.out _) (by have := HKW.out; simp only; omega); have rb1 := gblk hgrow (show (W.alloc (.cells #[] 35)).drew.heap[w.heap.size + 1 + 1]? = _ from blk_alloc B2.out _) (Nat.ne_of_lt HKW.out); have d0 := cell_alloc_far c0 (.cells #[.int .i64 x0, .int .i64 x1, .int .i64 x2] 35); have rb1x := blk_alloc rb1 (.cells #[.int .i64 x0, .int .i64 x1, .int .i64 x2] 35); have hgr := Aside0.mk hgrow; have hsz : W.heap.size ≤ w1.heap.size := Nat.le_trans (by simp; try omega) hgrow.size; clear hgrow))
      | ((refine step_append_lies _ (by rfl) _ _ _ (by rfl) W.heap.size 35 i0 _ 3 24 Try.underlying28 hi0 hz0 hz1 hz2 rfl (by omega) _ 0 [] (by rfl) (empty_own (w := ((W.alloc (.cells #[] 35)).alloc (.cells #[.int .i64 x0, .int .i64 x1, .int .i64 x2] 35)).drew) (base := W.heap.size) (g := W.heap.size) (by simp) (by exact blk_alloc (blk_new W _) _)) ad m c (flat l) (by rfl) (hfl.out) (fun j u hj => (cell_alloc_far (cell_alloc_far (hcW.out j u hj) _) _)) hfo.out (by omega) (by unfold maxLen; omega) (by omega) (by simp; try omega) _ rfl ?_; intro g1 cap1 w1 hown1 hgrow hat1 hlt1; rw [List.nil_append] at hown1; rw [Nat.zero_add] at hown1 ⊢; have c0 := gcell hgrow (cell_alloc_far (cell_alloc_far kk.out.1 _) _) (by have := HKW.out; simp only; omega); have c1 := gcell hgrow (cell_alloc_far (cell_alloc_far kk.out.2.1 _) _) (by have := HKW.out; simp only; omega); have c2 := gcell hgrow (cell_alloc_far (cell_alloc_far kk.out.2.2.1 _) _) (by have := HKW.out; simp only; omega); have c3 := gcell hgrow (cell_alloc_far (cell_alloc_far kk.out.2.2.2 _) _) (by have := HKW.out; simp only; omega); have c4 := gcell hgrow (cell_alloc_far (cell_alloc_far kk1.out _) _) (by have := HKW.out; simp only; omega); have rb1 := gblk hgrow (show ((W.alloc (.cells #[] 35)).alloc (.cells #[.int .i64 x0, .int .i64 x1, .int .i64 x2] 35)).drew.heap[w.heap.size + 1 + 1]? = _ from blk_alloc (blk_alloc B2.out _) _) (Nat.ne_of_lt HKW.out); have nb := gblk hgrow (show ((W.alloc (.cells #[] 35)).alloc (.cells #[.int .i64 x0, .int .i64 x1, .int .i64 x2] 35)).drew.heap[W.heap.size + 1]? = some (.cells #[.int .i64 x0, .int .i64 x1, .int .i64 x2] 35 (0, 0)) from (by have := blk_new (W.alloc (.cells #[] 35)) (.cells #[.int .i64 x0, .int .i64 x1, .int .i64 x2] 35); rw [World.size_alloc] at this; exact this)) (Nat.succ_ne_self _); have hgr := Aside0.mk hgrow; have hsz : W.heap.size ≤ w1.heap.size := Nat.le_trans (by simp; try omega) hgrow.size; clear hgrow))
      | ((refine step_append_lies _ (by rfl) _ _ _ (by rfl) W.heap.size 35 i0 _ 3 24 Try.underlying28 hi0 hz0 hz1 hz2 rfl (by omega) _ 0 [] (by rfl) (empty_own (w := ((W.alloc (.cells #[.int .i64 x0, .int .i64 x1, .int .i64 x2] 35)).alloc (.cells #[] 35)).drew) (base := W.heap.size) (g := W.heap.size + 1) (by simp) (by have := blk_new (W.alloc (.cells #[.int .i64 x0, .int .i64 x1, .int .i64 x2] 35)) (.cells #[] 35); rw [World.size_alloc] at this; exact this)) ad m c (flat l) (by rfl) (hfl.out) (fun j u hj => (cell_alloc_far (cell_alloc_far (hcW.out j u hj) _) _)) hfo.out (by omega) (by unfold maxLen; omega) (by omega) (by simp; try omega) _ rfl ?_; intro g1 cap1 w1 hown1 hgrow hat1 hlt1; rw [List.nil_append] at hown1; rw [Nat.zero_add] at hown1 ⊢; have c0 := gcell hgrow (cell_alloc_far (cell_alloc_far kk.out.1 _) _) (by have := HKW.out; simp only; omega); have c1 := gcell hgrow (cell_alloc_far (cell_alloc_far kk.out.2.1 _) _) (by have := HKW.out; simp only; omega); have c2 := gcell hgrow (cell_alloc_far (cell_alloc_far kk.out.2.2.1 _) _) (by have := HKW.out; simp only; omega); have c3 := gcell hgrow (cell_alloc_far (cell_alloc_far kk.out.2.2.2 _) _) (by have := HKW.out; simp only; omega); have c4 := gcell hgrow (cell_alloc_far (cell_alloc_far kk1.out _) _) (by have := HKW.out; simp only; omega); have rb1 := gblk hgrow (show ((W.alloc (.cells #[.int .i64 x0, .int .i64 x1, .int .i64 x2] 35)).alloc (.cells #[] 35)).drew.heap[w.heap.size + 1 + 1]? = _ from blk_alloc (blk_alloc B2.out _) _) (Nat.ne_of_lt (Nat.lt_succ_of_lt HKW.out)); have nb := gblk hgrow (show ((W.alloc (.cells #[.int .i64 x0, .int .i64 x1, .int .i64 x2] 35)).alloc (.cells #[] 35)).drew.heap[W.heap.size]? = some (.cells #[.int .i64 x0, .int .i64 x1, .int .i64 x2] 35 (0, 0)) from blk_alloc (blk_new W _) _) (Nat.ne_of_lt (Nat.lt_succ_self _)); have hgr := Aside0.mk hgrow; have hsz : W.heap.size ≤ w1.heap.size := Nat.le_trans (by simp; try omega) hgrow.size; clear hgrow))
      | ((refine step_append_lies _ (by rfl) _ _ _ (by rfl) W.heap.size 35 i0 _ 3 24 Try.underlying28 hi0 hz0 hz1 hz2 rfl (by omega) _ m _ (by rfl) (hown1.alloc _) ⟨w1.heap.size, 0, none⟩ 1 1 [.int .i64 x0, .int .i64 x1, .int .i64 x2] (by rfl) (by rfl) (World.news_of_block (cs := #[.int .i64 x0, .int .i64 x1, .int .i64 x2]) (t := 35) (fr := (0, 0)) (blk_new w1 _)) (by simp [Value.oneCell']) (by omega) (by unfold maxLen; omega) (by omega) (by first | omega | (simp; omega)) _ rfl ?_; intro g2 cap2 w2 hown2 hgrow2 hat2 hlt2; have e0 := ocell hown1 hgrow2 (cell_alloc_far c0 _) (by have := HKW.out; simp only; omega); have e1 := ocell hown1 hgrow2 (cell_alloc_far c1 _) (by have := HKW.out; simp only; omega); have e2 := ocell hown1 hgrow2 (cell_alloc_far c2 _) (by have := HKW.out; simp only; omega); have e3 := ocell hown1 hgrow2 (cell_alloc_far c3 _) (by have := HKW.out; simp only; omega); have e4 := ocell hown1 hgrow2 (cell_alloc_far c4 _) (by have := HKW.out; simp only; omega); have rb2 := oblk hown1 hgrow2 rb1x (by have := HKW.out; omega); have r0 := (blk_cell rb2 0).trans rfl; have r1 := (blk_cell rb2 1).trans rfl; have f0 := blk_frozen rb2 0; have f1 := blk_frozen rb2 1; have hgr2 := Aside0.mk hgrow2; clear hgrow2))
      | ((refine step_append_lies _ (by rfl) _ _ _ (by rfl) W.heap.size 35 i0 _ 3 24 Try.underlying28 hi0 hz0 hz1 hz2 rfl (by omega) _ m _ (by rfl) hown1 ⟨W.heap.size + 1, 0, none⟩ 1 1 [.int .i64 x0, .int .i64 x1, .int .i64 x2] (by rfl) (by rfl) (World.news_of_block (cs := #[.int .i64 x0, .int .i64 x1, .int .i64 x2]) (t := 35) (fr := (0, 0)) (nb)) (by simp [Value.oneCell']) (by omega) (by unfold maxLen; omega) (by omega) (by first | omega | (simp; omega)) _ rfl ?_; intro g2 cap2 w2 hown2 hgrow2 hat2 hlt2; have e0 := ocell hown1 hgrow2 c0 (by have := HKW.out; simp only; omega); have e1 := ocell hown1 hgrow2 c1 (by have := HKW.out; simp only; omega); have e2 := ocell hown1 hgrow2 c2 (by have := HKW.out; simp only; omega); have e3 := ocell hown1 hgrow2 c3 (by have := HKW.out; simp only; omega); have e4 := ocell hown1 hgrow2 c4 (by have := HKW.out; simp only; omega); have rb2 := oblk hown1 hgrow2 rb1 (by have := HKW.out; omega); have r0 := (blk_cell rb2 0).trans rfl; have r1 := (blk_cell rb2 1).trans rfl; have f0 := blk_frozen rb2 0; have f1 := blk_frozen rb2 1; have hgr2 := Aside0.mk hgrow2; clear hgrow2))
      | ((refine step_append_lies _ (by rfl) _ _ _ (by rfl) W.heap.size 35 i0 _ 3 24 Try.underlying28 hi0 hz0 hz1 hz2 rfl (by omega) _ m _ (by rfl) hown1 ⟨W.heap.size, 0, none⟩ 1 1 [.int .i64 x0, .int .i64 x1, .int .i64 x2] (by rfl) (by rfl) (World.news_of_block (cs := #[.int .i64 x0, .int .i64 x1, .int .i64 x2]) (t := 35) (fr := (0, 0)) (nb)) (by simp [Value.oneCell']) (by omega) (by unfold maxLen; omega) (by omega) (by first | omega | (simp; omega)) _ rfl ?_; intro g2 cap2 w2 hown2 hgrow2 hat2 hlt2; have e0 := ocell hown1 hgrow2 c0 (by have := HKW.out; simp only; omega); have e1 := ocell hown1 hgrow2 c1 (by have := HKW.out; simp only; omega); have e2 := ocell hown1 hgrow2 c2 (by have := HKW.out; simp only; omega); have e3 := ocell hown1 hgrow2 c3 (by have := HKW.out; simp only; omega); have e4 := ocell hown1 hgrow2 c4 (by have := HKW.out; simp only; omega); have rb2 := oblk hown1 hgrow2 rb1 (by have := HKW.out; omega); have r0 := (blk_cell rb2 0).trans rfl; have r1 := (blk_cell rb2 1).trans rfl; have f0 := blk_frozen rb2 0; have f1 := blk_frozen rb2 1; have hgr2 := Aside0.mk hgrow2; clear hgrow2)))
  all_goals
    have hb1 : Below w.heap.size w w1 := by
      first
        | exact (below_drew (HB.out.alloc HB.out.size _)).grown hgr.out (Nat.le_trans HB.out.size (by simp)) (fun k hk => by have := HB.out.size; have := Option.some.inj hk; simp only at this; omega)
        | exact (below_drew ((HB.out.alloc HB.out.size _).alloc (Nat.le_trans HB.out.size (by simp)) _)).grown hgr.out (Nat.le_trans HB.out.size (by simp; try omega)) (fun k hk => by have := HB.out.size; have := Option.some.inj hk; simp only at this; omega)
    have hb2 : Below w.heap.size w w2 := by
      first
        | exact (hb1.alloc hb1.size _).grown hgr2.out (Nat.le_trans hb1.size (by simp)) (fun k hk => by have := HB.out.size; have := own_base hown1 _ hk; omega)
        | exact hb1.grown hgr2.out hb1.size (fun k hk => by have := HB.out.size; have := own_base hown1 _ hk; omega)
    have RB := Aside0.mk rb2
    have OW := Aside0.mk hown2
    have HB2 := Aside0.mk hb2
    clear hb1 hb2 hown1 hown2 hgr hgr2 hat1 hat2 hlt1 hlt2 rb2 r0 r1 f0 f1
    go_wp2_with fail
    refine bodyPost_ret (results_cell_row rfl _ _ (w.heap.size + 1 + 1) 30 #[.int .i64 n, .slice (some ⟨g2, 0, none⟩) (m + 1) cap2] (0, 0) _ rfl (blk_put (cs := #[.int .i64 n, .slice none 0 0]) (blk_put (cs := #[.int .i64 0, .slice none 0 0]) RB.out 0 (.int .i64 n) rfl) 1 (.slice (some ⟨g2, 0, none⟩) (m + 1) cap2) rfl) Try.underlying30 rfl (by kernel_rfl)) rfl ?_
    refine ⟨_, rfl, ?_, (HB2.out.setCell (p := ⟨w.heap.size + 1 + 1, 0, none⟩) (by simp only; omega) (.int .i64 n)).setCell (p := ⟨w.heap.size + 1 + 1, 1, none⟩) (by simp only; omega) (.slice (some ⟨g2, 0, none⟩) (m + 1) cap2)⟩
    refine Bw_own (base := W.heap.size) ?_ (by rw [HML.out]; simp)
    rw [flat_snoc]
    exact own_move OW.out (fun b hb => by
      have := own_base OW.out b hb
      have := HKW.out
      exact (Below.heap_setCell _ _ _ b (by simp only; omega)).trans (Below.heap_setCell _ _ _ b (by simp only; omega)))
end Go.Proofs.Ytlokeimfmbgigaa.Bk

set_option linter.unusedVariables false
namespace Go.Proofs.Ytlokeimfmbgigaa.Bk
open Go.RowKit Go.Shelf Go.Proofs.YtlokeimfmbgigaaW.PrintWords Go.Proofs.YtlokeimfmbgigaaW.PrintLast Go.Proofs.YtlokeimfmbgigaaW.PrintMore
open Go.Proofs.Ytlokeimfmbgigaa.Ref Go.Proofs.Ytlokeimfmbgigaa.Pl

theorem step_append_zero {P : Program} {ops : Array Oper} {o : Oper} {a : Act} {w : World} {K : Act → World → Prop} {Q : Exit → Act → World → Prop} {E : Prop} (hgd : o.guard = none) (s x : Operand) (t : TypeId)
    (ho : o.op = .call { callee := .builtin .append, args := #[s, x], argTypes := #[t, t] }) (e : TypeId) (i : TypeInfo) (h1 : P.underlying t = some (.slice e)) (h2 : P.info? e = some i)
    (ao : Option Addr) (n cap : Nat) (hn : n ≤ cap) (hs : a.eval s = .slice ao n cap) (A : Option Addr) (c : Nat) (hx : a.eval x = .slice A 0 c)
    (hK : K (a.put o.dst (.slice ao n cap)) w) : if Region.wanted o (yielded ops a.tmps) = true then Oper.wp P o a w K Q else E := by
  have hw : Region.wanted o (yielded ops a.tmps) = true := by simp [Region.wanted, hgd]
  rw [if_pos hw]
  have hr := run_append_zero (P := P) w t o.type e i h1 h2 ao n cap hn A c
  unfold Oper.wp execOp
  simp only [ho, resolve, invoke, builtin, Sem.run_bind, Sem.run_pure, Result.andThen_ok, List.map_toArray, List.map_cons, List.map_nil, hs, hx, hr]
  exact hK
set_option maxHeartbeats 4000000 in
theorem with_nil (n : Int) (A : Option Addr) (c : Nat) (x0 x1 x2 : Int) (w : World) :
    Calls Try.prog 16 #[.agg #[.int .i64 n, .slice A 0 c], .agg #[.int .i64 x0, .int .i64 x1, .int .i64 x2]] w fun e w' => ∃ u, e = .returned u ∧ Bw w' n [⟨x0, x1, x2⟩] u ∧ Below w.heap.size w w' := by
  obtain ⟨i0, hi0, hz0, hz1, hz2⟩ := info_parts info35
  go_enter Try.func16, Try.ntmps16
  go_wp2_with fail
  have hB := below_alloc (below_alloc (below_alloc (Below.refl w.heap.size w) (.cells #[.int .i64 n, .slice A 0 c] 30)) (.cells #[.int .i64 x0, .int .i64 x1, .int .i64 x2] 35)) (.cells #[.int .i64 0, .slice none 0 0] 30)
  have b0 := blk_alloc (blk_alloc (blk_new w (.cells #[.int .i64 n, .slice A 0 c] 30)) (.cells #[.int .i64 x0, .int .i64 x1, .int .i64 x2] 35)) (.cells #[.int .i64 0, .slice none 0 0] 30)
  have b1 := blk_alloc (blk_new (w.alloc (.cells #[.int .i64 n, .slice A 0 c] 30)) (.cells #[.int .i64 x0, .int .i64 x1, .int .i64 x2] 35)) (.cells #[.int .i64 0, .slice none 0 0] 30)
  have b2 := blk_new ((w.alloc (.cells #[.int .i64 n, .slice A 0 c] 30)).alloc (.cells #[.int .i64 x0, .int .i64 x1, .int .i64 x2] 35)) (.cells #[.int .i64 0, .slice none 0 0] 30)
  simp only [World.size_alloc] at b1 b2
  generalize ((w.alloc (.cells #[.int .i64 n, .slice A 0 c] 30)).alloc (.cells #[.int .i64 x0, .int .i64 x1, .int .i64 x2] 35)).alloc (.cells #[.int .i64 0, .slice none 0 0] 30) = W at *
  have HB := Aside0.mk hB
  have B2 := Aside0.mk b2
  have k0 : W.cell? ⟨w.heap.size, 0, none⟩ = some (.int .i64 n) := (blk_cell b0 0).trans rfl
  have k1 : W.cell? ⟨w.heap.size, 1, none⟩ = some (.slice A 0 c) := (blk_cell b0 1).trans rfl
  have k2 : W.cell? ⟨w.heap.size + 1, 0, none⟩ = some (.int .i64 x0) := (blk_cell b1 0).trans rfl
  have k3 : W.cell? ⟨w.heap.size + 1, 1, none⟩ = some (.int .i64 x1) := (blk_cell b1 1).trans rfl
  have k4 : W.cell? ⟨w.heap.size + 1, 2, none⟩ = some (.int .i64 x2) := (blk_cell b1 2).trans rfl
  clear hB b0 b1 b2
  have k0a := cell_alloc_far k0 (.cells #[] 35)
  have k1a := cell_alloc_far k1 (.cells #[] 35)
  have k2a := cell_alloc_far k2 (.cells #[] 35)
  have k3a := cell_alloc_far k3 (.cells #[] 35)
  have k4a := cell_alloc_far k4 (.cells #[] 35)
  have k0b := cell_alloc_far k0 (.cells #[.int .i64 x0, .int .i64 x1, .int .i64 x2] 35)
  have k1b := cell_alloc_far k1 (.cells #[.int .i64 x0, .int .i64 x1, .int .i64 x2] 35)
  have k2b := cell_alloc_far k2 (.cells #[.int .i64 x0, .int .i64 x1, .int .i64 x2] 35)
  have k3b := cell_alloc_far k3 (.cells #[.int .i64 x0, .int .i64 x1, .int .i64 x2] 35)
  have k4b := cell_alloc_far k4 (.cells #[.int .i64 x0, .int .i64 x1, .int .i64 x2] 35)
  have k0ab := cell_alloc_far k0a (.cells #[.int .i64 x0, .int .i64 x1, .int .i64 x2] 35)
  have k1ab := cell_alloc_far k1a (.cells #[.int .i64 x0, .int .i64 x1, .int .i64 x2] 35)
  have k2ab := cell_alloc_far k2a (.cells #[.int .i64 x0, .int .i64 x1, .int .i64 x2] 35)
  have k3ab := cell_alloc_far k3a (.cells #[.int .i64 x0, .int .i64 x1, .int .i64 x2] 35)
  have k4ab := cell_alloc_far k4a (.cells #[.int .i64 x0, .int .i64 x1, .int .i64 x2] 35)
  have k0ba := cell_alloc_far k0b (.cells #[] 35)
  have k1ba := cell_alloc_far k1b (.cells #[] 35)
  have k2ba := cell_alloc_far k2b (.cells #[] 35)
  have k3ba := cell_alloc_far k3b (.cells #[] 35)
  have k4ba := cell_alloc_far k4b (.cells #[] 35)
  have HKW := Aside0.mk (show w.heap.size + 1 + 1 < W.heap.size from World.block_lt_of_cell? W ⟨w.heap.size + 1 + 1, 0, none⟩ ((blk_cell B2.out 0).trans rfl))
  have kk := Aside0.mk (And.intro k0 (And.intro k2 (And.intro k3 k4)))
  have kk1 := Aside0.mk k1
  go_region_held3 (fun w' => w'.cell? ⟨w.heap.size, 0, none⟩ = some (.int .i64 n) ∧ w'.cell? ⟨w.heap.size, 1, none⟩ = some (.slice A 0 c) ∧ w'.cell? ⟨w.heap.size + 1, 0, none⟩ = some (.int .i64 x0) ∧ w'.cell? ⟨w.heap.size + 1, 1, none⟩ = some (.int .i64 x1) ∧ w'.cell? ⟨w.heap.size + 1, 2, none⟩ = some (.int .i64 x2)) (first | exact ⟨cell_far2 e0 (by simp only; omega) _ _, cell_far2 e1 (by simp only; omega) _ _, cell_far2 e2 (by simp only; omega) _ _, cell_far2 e3 (by simp only; omega) _ _, cell_far2 e4 (by simp only; omega) _ _⟩ | exact ⟨e0, e1, e2, e3, e4⟩ | exact ⟨k0a, k1a, k2a, k3a, k4a⟩ | exact ⟨k0b, k1b, k2b, k3b, k4b⟩ | exact ⟨k0ab, k1ab, k2ab, k3ab, k4ab⟩ | exact ⟨k0ba, k1ba, k2ba, k3ba, k4ba⟩ | go_keep)
    (first
      | ((refine step_append_zero (by rfl) _ _ _ (by rfl) 35 i0 Try.underlying28 hi0 (some ⟨W.heap.size, 0, none⟩) 0 0 (Nat.le_refl _) (by rfl) A c (by rfl) ?_))
      | ((refine step_append_zero (by rfl) _ _ _ (by rfl) 35 i0 Try.underlying28 hi0 (some ⟨W.heap.size + 1, 0, none⟩) 0 0 (Nat.le_refl _) (by rfl) A c (by rfl) ?_))
      | ((refine step_append_lies _ (by rfl) _ _ _ (by rfl) W.heap.size 35 i0 _ 3 24 Try.underlying28 hi0 hz0 hz1 hz2 rfl (by omega) _ 0 [] (by rfl) (empty_own (w := ((W.alloc (.cells #[] 35)).alloc (.cells #[.int .i64 x0, .int .i64 x1, .int .i64 x2] 35)).drew) (base := W.heap.size) (g := W.heap.size) (by simp) (by exact blk_alloc (blk_new W _) _)) ⟨W.heap.size + 1, 0, none⟩ 1 1 [.int .i64 x0, .int .i64 x1, .int .i64 x2] (by rfl) (by rfl) (World.news_of_block (w := ((W.alloc (.cells #[] 35)).alloc (.cells #[.int .i64 x0, .int .i64 x1, .int .i64 x2] 35)).drew) (cs := #[.int .i64 x0, .int .i64 x1, .int .i64 x2]) (t := 35) (fr := (0, 0)) (by have := blk_new (W.alloc (.cells #[] 35)) (.cells #[.int .i64 x0, .int .i64 x1, .int .i64 x2] 35); rw [World.size_alloc] at this; exact this)) (by simp [Value.oneCell']) (by omega) (by unfold maxLen; omega) (by omega) (by simp; try omega) _ rfl ?_; intro g2 cap2 w2 hown2 hgrow2 hat2 hlt2; rw [List.nil_append] at hown2; rw [Nat.zero_add] at hown2 ⊢; have e0 := gcell hgrow2 (cell_alloc_far (cell_alloc_far kk.out.1 _) _) (by have := HKW.out; simp only; omega); have e1 := gcell hgrow2 (cell_alloc_far (cell_alloc_far kk1.out _) _) (by have := HKW.out; simp only; omega); have e2 := gcell hgrow2 (cell_alloc_far (cell_alloc_far kk.out.2.1 _) _) (by have := HKW.out; simp only; omega); have e3 := gcell hgrow2 (cell_alloc_far (cell_alloc_far kk.out.2.2.1 _) _) (by have := HKW.out; simp only; omega); have e4 := gcell hgrow2 (cell_alloc_far (cell_alloc_far kk.out.2.2.2 _) _) (by have := HKW.out; simp only; omega); have rb2 := gblk hgrow2 (show ((W.alloc (.cells #[] 35)).alloc (.cells #[.int .i64 x0, .int .i64 x1, .int .i64 x2] 35)).drew.heap[w.heap.size + 1 + 1]? = _ from blk_alloc (blk_alloc B2.out _) _) (Nat.ne_of_lt HKW.out); have r0 := (blk_cell rb2 0).trans rfl; have r1 := (blk_cell rb2 1).trans rfl; have f0 := blk_frozen rb2 0; have f1 := blk_frozen rb2 1; have hgr2 := Aside0.mk hgrow2; clear hgrow2))
      | ((refine step_append_lies _ (by rfl) _ _ _ (by rfl) W.heap.size 35 i0 _ 3 24 Try.underlying28 hi0 hz0 hz1 hz2 rfl (by omega) _ 0 [] (by rfl) (empty_own (w := ((W.alloc (.cells #[.int .i64 x0, .int .i64 x1, .int .i64 x2] 35)).alloc (.cells #[] 35)).drew) (base := W.heap.size) (g := W.heap.size + 1) (by simp) (by have := blk_new (W.alloc (.cells #[.int .i64 x0, .int .i64 x1, .int .i64 x2] 35)) (.cells #[] 35); rw [World.size_alloc] at this; exact this)) ⟨W.heap.size, 0, none⟩ 1 1 [.int .i64 x0, .int .i64 x1, .int .i64 x2] (by rfl) (by rfl) (World.news_of_block (w := ((W.alloc (.cells #[.int .i64 x0, .int .i64 x1, .int .i64 x2] 35)).alloc (.cells #[] 35)).drew) (cs := #[.int .i64 x0, .int .i64 x1, .int .i64 x2]) (t := 35) (fr := (0, 0)) (blk_alloc (blk_new W _) _)) (by simp [Value.oneCell']) (by omega) (by unfold maxLen; omega) (by omega) (by simp; try omega) _ rfl ?_; intro g2 cap2 w2 hown2 hgrow2 hat2 hlt2; rw [List.nil_append] at hown2; rw [Nat.zero_add] at hown2 ⊢; have e0 := gcell hgrow2 (cell_alloc_far (cell_alloc_far kk.out.1 _) _) (by have := HKW.out; simp only; omega); have e1 := gcell hgrow2 (cell_alloc_far (cell_alloc_far kk1.out _) _) (by have := HKW.out; simp only; omega); have e2 := gcell hgrow2 (cell_alloc_far (cell_alloc_far kk.out.2.1 _) _) (by have := HKW.out; simp only; omega); have e3 := gcell hgrow2 (cell_alloc_far (cell_alloc_far kk.out.2.2.1 _) _) (by have := HKW.out; simp only; omega); have e4 := gcell hgrow2 (cell_alloc_far (cell_alloc_far kk.out.2.2.2 _) _) (by have := HKW.out; simp only; omega); have rb2 := gblk hgrow2 (show ((W.alloc (.cells #[.int .i64 x0, .int .i64 x1, .int .i64 x2] 35)).alloc (.cells #[] 35)).drew.heap[w.heap.size + 1 + 1]? = _ from blk_alloc (blk_alloc B2.out _) _) (Nat.ne_of_lt (Nat.lt_succ_of_lt HKW.out)); have r0 := (blk_cell rb2 0).trans rfl; have r1 := (blk_cell rb2 1).trans rfl; have f0 := blk_frozen rb2 0; have f1 := blk_frozen rb2 1; have hgr2 := Aside0.mk hgrow2; clear hgrow2)))
  all_goals
    have hb2 : Below w.heap.size w w2 := by
      exact (below_drew ((HB.out.alloc HB.out.size _).alloc (Nat.le_trans HB.out.size (by simp)) _)).grown hgr2.out (Nat.le_trans HB.out.size (by simp; try omega)) (fun k hk => by have := HB.out.size; have := Option.some.inj hk; simp only at this; omega)
    have RB := Aside0.mk rb2
    have OW := Aside0.mk hown2
    have HB2 := Aside0.mk hb2
    clear hb2 hown2 hgr2 hat2 hlt2 rb2 r0 r1 f0 f1
    go_wp2_with fail
    refine bodyPost_ret (results_cell_row rfl _ _ (w.heap.size + 1 + 1) 30 #[.int .i64 n, .slice (some ⟨g2, 0, none⟩) 1 cap2] (0, 0) _ rfl (blk_put (cs := #[.int .i64 n, .slice none 0 0]) (blk_put (cs := #[.int .i64 0, .slice none 0 0]) RB.out 0 (.int .i64 n) rfl) 1 (.slice (some ⟨g2, 0, none⟩) 1 cap2) rfl) Try.underlying30 rfl (by kernel_rfl)) rfl ?_
    refine ⟨_, rfl, ?_, (HB2.out.setCell (p := ⟨w.heap.size + 1 + 1, 0, none⟩) (by simp only; omega) (.int .i64 n)).setCell (p := ⟨w.heap.size + 1 + 1, 1, none⟩) (by simp only; omega) (.slice (some ⟨g2, 0, none⟩) 1 cap2)⟩
    refine Bw_own (base := W.heap.size) ?_ rfl
    exact own_move OW.out (fun b hb => by
      have := own_base OW.out b hb
      have := HKW.out
      exact (Below.heap_setCell _ _ _ b (by simp only; omega)).trans (Below.heap_setCell _ _ _ b (by simp only; omega)))
theorem withV {n : Int} {l : List S35} {v : Value} {w : World} (h : Bw w n l v) (x : S35) (hl : l.length ≤ 1000) : Calls Try.prog 16 #[v, bdV x] w fun e w' => ∃ u, e = .returned u ∧ Bw w' n (l ++ [x]) u ∧ Below w.heap.size w w' := by
  obtain ⟨A, c, rfl, h1, h2⟩ := h
  obtain ⟨x0, x1, x2⟩ := x
  cases l with
  | nil => exact with_nil n A c x0 x1 x2 w
  | cons b l =>
    obtain ⟨ad, rfl, hcell⟩ := C_cells h2 (by simp)
    exact with_pos n (b :: l) ad _ c x0 x1 x2 w hcell hl (by simp) ⟨rfl⟩
theorem fewV {n : Int} {l : List S35} {v : Value} {w : World} (h : Bw w n l v) : Calls Try.prog 21 #[v] w fun e w' => ∃ u, e = .returned u ∧ Bw w' n (l.take 6) u ∧ Below w.heap.size w w' := few_calls n l v w h
end Go.Proofs.Ytlokeimfmbgigaa.Bk

set_option linter.unusedVariables false
namespace Go.Proofs.Ytlokeimfmbgigaa.Pl
open Go.RowKit Go.Proofs.YtlokeimfmbgigaaW.PrintWords
open Go.Proofs.Ytlokeimfmbgigaa.Ref
def madeB (n : Nat) (hs : List Int) (t : Int × Int × Int) : S35 := ⟨pickP t.1 n, pickP t.2.1 n, hidV hs (pickP t.2.1 n).toNat - hidV hs (pickP t.1 n).toNat + pickP t.2.2 30⟩
def baseL (x : Nums) : List S35 := (x.bs.take 16).map (madeB (hidN x.n) x.hs)
def lessK (miss : Int) (l : List S35) : Nat := (pickP (Int.tdiv miss 3) l.length).toNat
def lessT (miss : Int) (b : S35) : S35 := ⟨b.f0, b.f1, b.f2 - 10 - pickP (Int.tdiv miss 60) 60⟩
def lessL (miss : Int) (l : List S35) : List S35 := if missB miss = true ∧ 0 < l.length then l.set (lessK miss l) (lessT miss (l.getD (lessK miss l) z35)) else l
def madeL (x : Nums) : List S35 := lessL x.miss (baseL x)
theorem baseL_len (x : Nums) : (baseL x).length = min 16 x.bs.length := by simp [baseL]
theorem lessL_len (miss : Int) (l : List S35) : (lessL miss l).length = l.length := by unfold lessL; split <;> simp
theorem madeL_len (x : Nums) : (madeL x).length ≤ 16 := by unfold madeL; rw [lessL_len, baseL_len]; omega
theorem baseL_range (x : Nums) (k : Nat) (hk : k < (baseL x).length) : -200 ≤ ((baseL x).getD k z35).f2 ∧ ((baseL x).getD k z35).f2 ≤ 300 := by
  rw [List.getD_eq_getElem?_getD, List.getElem?_eq_getElem hk]
  simp only [baseL, List.getElem_map, Option.getD_some, madeB]
  generalize (List.take 16 x.bs)[k]'(by simpa [baseL] using hk) = t
  have h1 := hidV_range x.hs (pickP t.2.1 (hidN x.n)).toNat
  have h2 := hidV_range x.hs (pickP t.1 (hidN x.n)).toNat
  have h3 := pickP_range t.2.2 30 (by omega)
  omega
theorem baseL_take (x : Nums) (i : Nat) (hi : i < x.bs.length) (h16 : i < 16) : (baseL x).take (i + 1) = (baseL x).take i ++ [madeB (hidN x.n) x.hs (x.bs.getD i (0, 0, 0))] := by
  rw [List.take_succ_eq_append_getElem (by rw [baseL_len]; omega)]
  congr 2
  simp only [baseL, List.getElem_map, List.getElem_take]
  rw [List.getD_eq_getElem?_getD, List.getElem?_eq_getElem hi]
  rfl
end Go.Proofs.Ytlokeimfmbgigaa.Pl
namespace Go.Proofs.Ytlokeimfmbgigaa.Bk
open Go.RowKit Go.Shelf Go.Proofs.YtlokeimfmbgigaaW.PrintWords Go.Proofs.YtlokeimfmbgigaaW.PrintLast Go.Proofs.YtlokeimfmbgigaaW.PrintMore
open Go.Proofs.Ytlokeimfmbgigaa.Ref Go.Proofs.Ytlokeimfmbgigaa.Pl

/-- What lies in memory while Made runs. -/
structure MS (w : World) (x : Nums) (s1 s2 : Value) (hb c3 g : Nat) (wr : World) (i : Nat) (V : Value) : Prop where
  box : wr.heap[w.heap.size]? = some (.cells #[.int .i64 x.n, s1, s2, .int .i64 x.miss] 25 (0, 0))
  res : wr.heap[w.heap.size + 1]? = some (.cells #[.int .i64 0, .slice none 0 0] 30 (0, 0))
  hid : wr.ownsRow (w.heap.size + 2) 3 1 (.slice (some ⟨hb, 0, none⟩) (hidN x.n) c3) (hidN x.n) (intsR (hidL x.n x.hs))
  hbg : hb < g
  bb : wr.heap[g]? = some (.cells #[.int .i64 (hidN x.n : Int), V] 30 (0, 0))
  own : wr.ownsRow (g + 1) 35 3 V i (flat ((baseL x).take i))
  bel : Below w.heap.size w wr
  big : w.heap.size + 2 ≤ g
section
variable {w : World} {x : Nums} {s1 s2 : Value} {hb c3 g : Nat} {wr : World} {i : Nat} {V : Value}
theorem MS.below (h : MS w x s1 s2 hb c3 g wr i V) {w' : World} (hb' : Below wr.heap.size wr w') : MS w x s1 s2 hb c3 g w' i V :=
  ⟨blk_below h.box hb', blk_below h.res hb', own_move h.hid (fun b hb => by obtain ⟨cc, hcc⟩ := own_typed h.hid b hb; exact (blk_below hcc hb').trans hcc.symm), h.hbg, blk_below h.bb hb', own_move h.own (fun b hb => by obtain ⟨cc, hcc⟩ := own_typed h.own b hb; exact (blk_below hcc hb').trans hcc.symm), below_step h.bel hb', h.big⟩
theorem MS.hcell (h : MS w x s1 s2 hb c3 g wr i V) {j : Nat} (hj : j < hidN x.n) : wr.cell? ⟨hb, j, none⟩ = some (.int .i64 (hidV x.hs j)) := by
  rw [h.hid.cellAt j (by omega)]
  simp [intsR, hidL, hj]
theorem MS.base (h : MS w x s1 s2 hb c3 g wr i V) : w.heap.size + 2 ≤ hb := by
  rcases h.hid.2 with ⟨h0, _⟩ | ⟨g', cap, cur, e, hg, _⟩
  · cases h0
  · simp only [Value.slice.injEq, Option.some.injEq, Addr.mk.injEq] at e
    omega
theorem MS.lt (h : MS w x s1 s2 hb c3 g wr i V) : g < wr.heap.size := blk_lt h.bb
/-- A bound is appended. -/
theorem MS.push (h : MS w x s1 s2 hb c3 g wr i V) {o : Obj} {Y : World} {V' : Value} {m : Nat} (hown : Y.ownsRow (g + 1) 35 3 V' m (flat ((baseL x).take m))) (hg : (wr.alloc o).grownBy Y V.ownBlock) : MS w x s1 s2 hb c3 g (Y.setCell ⟨g, 1, none⟩ V') m V' := by
  have ne : ∀ b, b < g + 1 → some b ≠ V.ownBlock := fun b hb e => by have := own_base h.own b e.symm; omega
  have hB := h.base
  have hG := h.big
  have hbg := h.hbg
  have far : ∀ {b : Nat}, b ≠ g → b ≠ (⟨g, 1, none⟩ : Addr).block := fun h => h
  refine ⟨blk_far (blk_grown (blk_alloc h.box _) hg (ne _ (by omega))) (far (by omega)) _, blk_far (blk_grown (blk_alloc h.res _) hg (ne _ (by omega))) (far (by omega)) _, ?_, hbg, ?_, ?_, ?_, hG⟩
  · refine own_move h.hid (fun b hb' => ?_)
    have hbe : b = hb := by simpa [Value.ownBlock] using hb'.symm
    subst hbe
    obtain ⟨cc, hcc⟩ := own_typed h.hid b hb'
    exact (blk_far (blk_grown (blk_alloc hcc _) hg (ne _ (by omega))) (far (by omega)) _).trans hcc.symm
  · exact blk_put (blk_grown (blk_alloc h.bb _) hg (ne _ (by omega))) 1 _ rfl
  · refine own_move hown (fun b hb' => ?_)
    have := own_base hown b hb'
    exact Below.heap_setCell _ _ _ b (by simp only; omega)
  · exact (below_grown2 h.bel h.own (by omega) hg).setCell (p := ⟨g, 1, none⟩) (by simp only; omega) _
end
theorem cell_far3 {w : World} {g : Nat} {p : Addr} {v : Value} (h : w.cell? p = some v) (hne : p.block < g) (u1 u2 u3 : Value) : (((w.setCell ⟨g, 0, none⟩ u1).setCell ⟨g, 1, none⟩ u2).setCell ⟨g, 2, none⟩ u3).cell? p = some v := by
  have h0 : ∀ j, (⟨g, j, none⟩ : Addr) ≠ p := fun j e => by rw [← e] at hne; exact Nat.lt_irrefl _ hne
  exact (World.cell?_setCell_other _ _ _ _ (h0 2)).trans ((World.cell?_setCell_other _ _ _ _ (h0 1)).trans ((World.cell?_setCell_other _ _ _ _ (h0 0)).trans h))
theorem tdiv_range {m : Int} (h : I64 m) (k : Int) (hk : 2 ≤ k) : -9223372036854775808 ≤ Int.tdiv m k ∧ Int.tdiv m k ≤ 9223372036854775807 := by
  unfold I64 at h
  have h3 : (Int.tdiv m k).natAbs ≤ m.natAbs / 2 := by rw [Int.natAbs_tdiv]; exact Nat.div_le_div_left (by omega) (by decide)
  omega
theorem pick1 (c n r : Int) (w : World) (hc : I64 c) (hn : 0 < n) (hr : pickP c n = r) : Calls Try.prog 38 #[.int .i64 c, .int .i64 n] w fun e w' => e = .returned (.int .i64 r) ∧ w' = w := hr ▸ pick0 c n hc hn w
set_option maxHeartbeats 4000000 in
set_option maxRecDepth 100000 in
theorem made_calls (x : Nums) (v : Value) (w : World) (h : Nw w x v) : Calls Try.prog 11 #[v] w fun e w' => ∃ u, e = .returned u ∧ Bw w' (hidN x.n) (madeL x) u ∧ Below w.heap.size w w' := by
  have hnw := h
  obtain ⟨A, c, B, d, rfl, h1, h2, h3, h4, h5, h6, h7⟩ := h
  obtain ⟨i35, hi35, hz0, hz1, hz2⟩ := info_parts info35
  have HI35 := Aside0.mk (And.intro hi35 (And.intro hz0 (And.intro hz1 hz2)))
  have HNW := Aside0.mk hnw
  have HMI := Aside0.mk h2
  have HTR := Aside0.mk h5
  have HLN := Aside0.mk h7
  have HR := Aside0.mk (hidN_range x.n)
  clear h1 h2 h3 h4 h5 h6 h7 hnw hi35 hz0 hz1 hz2
  go_enter Try.func11, Try.ntmps11
  go_wp2_with fail
  have hB0 := below_alloc (below_alloc (Below.refl w.heap.size w) (.cells #[.int .i64 x.n, .slice A x.hs.length c, .slice B x.bs.length d, .int .i64 x.miss] 25)) (.cells #[.int .i64 0, .slice none 0 0] 30)
  have b0 := blk_alloc (blk_new w (.cells #[.int .i64 x.n, .slice A x.hs.length c, .slice B x.bs.length d, .int .i64 x.miss] 25)) (.cells #[.int .i64 0, .slice none 0 0] 30)
  have b1 := blk_new (w.alloc (.cells #[.int .i64 x.n, .slice A x.hs.length c, .slice B x.bs.length d, .int .i64 x.miss] 25)) (.cells #[.int .i64 0, .slice none 0 0] 30)
  have hsz : ((w.alloc (.cells #[.int .i64 x.n, .slice A x.hs.length c, .slice B x.bs.length d, .int .i64 x.miss] 25)).alloc (.cells #[.int .i64 0, .slice none 0 0] 30)).heap.size = w.heap.size + 2 := by simp
  rw [World.size_alloc] at b1
  generalize (w.alloc (.cells #[.int .i64 x.n, .slice A x.hs.length c, .slice B x.bs.length d, .int .i64 x.miss] 25)).alloc (.cells #[.int .i64 0, .slice none 0 0] 30) = W at *
  refine (hidden_calls x _ W (HNW.out.below hB0)).mono ?_
  rintro e w1 ⟨u, rfl, hu, hb1⟩
  rw [hidL_len, hsz] at hu
  obtain ⟨hb, c3, rfl, hbb⟩ : ∃ hb c3, u = .slice (some ⟨hb, 0, none⟩) (hidN x.n) c3 ∧ hb < w1.heap.size := by
    rcases hu.2 with ⟨_, h0⟩ | ⟨g', cap, cur, e, _, hh, _⟩
    · have := HR.out; omega
    · exact ⟨g', cap, e, blk_lt hh⟩
  have hms : MS w x (.slice A x.hs.length c) (.slice B x.bs.length d) hb c3 w1.heap.size (w1.alloc (.cells #[.int .i64 (hidN x.n : Int), .slice none 0 0] 30)) 0 (.slice none 0 0) := by
    have hb2 := below_step hB0 hb1
    refine ⟨blk_alloc (blk_below b0 hb1) _, blk_alloc (blk_below b1 hb1) _, hu.alloc _, hbb, blk_new w1 _, ⟨rfl, .inl ⟨rfl, rfl⟩⟩, hb2.alloc hb2.size _, by have := hb1.size; omega⟩
  have HM := Aside0.mk hms
  clear hms hu hb1 hB0 b0 b1 hsz hbb
  go_wp2_with fail
  obtain ⟨g, hg⟩ : ∃ g, g = w1.heap.size := ⟨_, rfl⟩
  rw [← hg] at HM ⊢
  generalize w1.alloc (.cells #[.int .i64 (hidN x.n : Int), .slice none 0 0] 30) = W0 at *
  clear hg
  go_loopg [5] (min 16 x.bs.length + 1) (fun kq v5 wr => ∃ (i : Nat) (V : Value), v5 = .int .i64 (i : Int) ∧ Aside0 (i + kq = min 16 x.bs.length + 1 ∧ i ≤ min 16 x.bs.length) ∧ Aside0 (MS w x (.slice A x.hs.length c) (.slice B x.bs.length d) hb c3 g wr i V))
  case atStart => exact ⟨0, _, rfl, ⟨by omega, by omega⟩, HM⟩
  case round =>
    clear HM
    obtain ⟨i, V, rfl, HK, HM⟩ := hrel
    have k2 : wr.cell? ⟨w.heap.size, 2, none⟩ = some (.slice B x.bs.length d) := (blk_cell HM.out.box 2).trans rfl
    have hi17 : i + 1 ≤ 17 := by have := HK.out; omega
    by_cases hi : i < min 16 x.bs.length
    · have q1 := eq_true (show i < x.bs.length by omega)
      have q2 := eq_true (show i < 16 by omega)
      have q3 := eq_true (show (i : Int) < (x.bs.length : Int) by omega)
      have q4 := eq_true (show (0 : Int) ≤ (i : Int) by omega)
      have q5 : decide ((i : Int) < 16) = true := decide_eq_true (by omega)
      have q6 : decide ((i : Int) < (x.bs.length : Int)) = true := decide_eq_true (by omega)
      obtain ⟨ad, rfl, hce⟩ := HTR.out.2 (by omega)
      obtain ⟨e0, e1, e2⟩ := hce i (by omega)
      have hI := HTR.out.1 (x.bs.getD i (0, 0, 0)) (by rw [List.getD_eq_getElem?_getD, List.getElem?_eq_getElem (by omega : i < x.bs.length)]; exact List.getElem_mem _)
      have hsn := baseL_take x i (by omega) (by omega)
      generalize x.bs.getD i (0, 0, 0) = y at e0 e1 e2 hI hsn
      obtain ⟨y0, y1, y2⟩ := y
      replace e0 : wr.cell? (ad.add (i * 3)) = some (.int .i64 y0) := pw_cell_below HM.out.bel e0
      replace e1 : wr.cell? ⟨(ad.add (i * 3)).block, (ad.add (i * 3)).off + 1, none⟩ = some (.int .i64 y1) := pw_cell_below HM.out.bel e1
      replace e2 : wr.cell? ⟨(ad.add (i * 3)).block, (ad.add (i * 3)).off + 2, none⟩ = some (.int .i64 y2) := pw_cell_below HM.out.bel e2
      have k0 : wr.cell? ⟨g, 0, none⟩ = some (.int .i64 (hidN x.n : Int)) := (blk_cell HM.out.bb 0).trans rfl
      have HI := Aside0.mk hi
      have HI64 := Aside0.mk hI
      have hp0 := pickP_range y0 (hidN x.n) (by have := HR.out; omega)
      have hp1 := pickP_range y1 (hidN x.n) (by have := HR.out; omega)
      have hp2 := pickP_range y2 30 (by omega)
      obtain ⟨j0, hj0⟩ : ∃ j : Nat, pickP y0 (hidN x.n) = (j : Int) := ⟨(pickP y0 (hidN x.n)).toNat, by omega⟩
      obtain ⟨j1, hj1⟩ : ∃ j : Nat, pickP y1 (hidN x.n) = (j : Int) := ⟨(pickP y1 (hidN x.n)).toNat, by omega⟩
      obtain ⟨p2, hj2⟩ : ∃ p, pickP y2 30 = p := ⟨_, rfl⟩
      rw [hj0] at hp0
      rw [hj1] at hp1
      rw [hj2] at hp2
      have hv0 := hidV_range x.hs j0
      have hv1 := hidV_range x.hs j1
      have hb0 := HM.out.hcell (show j0 < hidN x.n by omega)
      have hb1 := HM.out.hcell (show j1 < hidN x.n by omega)
      have hmk : madeB (hidN x.n) x.hs (y0, y1, y2) = ⟨(j0 : Int), (j1 : Int), hidV x.hs j1 - hidV x.hs j0 + p2⟩ := by simp only [madeB, hj0, hj1, hj2, Int.toNat_natCast]
      rw [hmk] at hsn
      have HSN := Aside0.mk hsn
      have HP0 := Aside0.mk hj0
      have HP1 := Aside0.mk hj1
      have HP2 := Aside0.mk hj2
      have HLT0 := Aside0.mk (And.intro hp0 hp1)
      generalize hidV x.hs j0 = z0 at hb0 hv0 HSN
      generalize hidV x.hs j1 = z1 at hb1 hv1 HSN
      have hw1 : IntKind.i64.wrap (z1 - z0) = z1 - z0 := IntWalk.i64_in _ (by omega)
      have hw2 : IntKind.i64.wrap (z1 - z0 + p2) = z1 - z0 + p2 := IntWalk.i64_in _ (by omega)
      have PK0 := Aside0.mk (fun X => pick1 y0 (hidN x.n) j0 X HI64.out.1 (by have := HR.out; omega) HP0.out)
      have PK1 := Aside0.mk (fun X => pick1 y1 (hidN x.n) j1 X HI64.out.2.1 (by have := HR.out; omega) HP1.out)
      have PK2 := Aside0.mk (fun X => pick1 y2 30 p2 X HI64.out.2.2 (by omega) HP2.out)
      generalize hNN : hidN x.n = NN at *
      have HB0 := Aside0.mk hb0
      have HB1 := Aside0.mk hb1
      have HW := Aside0.mk (And.intro hw1 hw2)
      have HE2 := Aside0.mk (fun (X : World) (hX : Below wr.heap.size wr X) => pw_cell_below hX e2)
      have HLA := Aside0.mk (show (ad.add (i * 3)).block < wr.heap.size ∧ w.heap.size < wr.heap.size ∧ g < wr.heap.size from ⟨World.block_lt_of_cell? wr _ e0, World.block_lt_of_cell? wr _ k2, World.block_lt_of_cell? wr _ k0⟩)
      clear hi hI hce hsn hmk hj0 hj1 hj2 hv0 hv1 hb0 hb1 hw1 hw2 e2
      go_upto_region 6 with (fail)
      go_cut [6] (fun s6 w' => ∃ gy, s6 = .pointer (some ⟨gy, 0, none⟩) ∧ Aside0 (w'.heap[gy]? = some (.cells #[.int .i64 (j0 : Int), .int .i64 (j1 : Int), .int .i64 0] 35 (0, 0))) ∧ Aside0 (Below wr.heap.size wr w') ∧ Aside0 (wr.heap.size ≤ gy))
      case first =>
        go_region_held3 (fun w' => w'.cell? (ad.add (i * 3)) = some (.int .i64 y0) ∧ w'.cell? ⟨(ad.add (i * 3)).block, (ad.add (i * 3)).off + 1, none⟩ = some (.int .i64 y1) ∧ w'.cell? ⟨w.heap.size, 2, none⟩ = some (.slice (some ad) x.bs.length d) ∧ w'.cell? ⟨g, 0, none⟩ = some (.int .i64 (NN : Int)))
          (first | exact ⟨e0, e1, k2, k0⟩ | exact ⟨cell_alloc_far e0 _, cell_alloc_far e1 _, cell_alloc_far k2 _, cell_alloc_far k0 _⟩ | exact ⟨cell_far3 (cell_alloc_far e0 _) HLA.out.1 _ _ _, cell_far3 (cell_alloc_far e1 _) HLA.out.1 _ _ _, cell_far3 (cell_alloc_far k2 _) HLA.out.2.1 _ _ _, cell_far3 (cell_alloc_far k0 _) HLA.out.2.2 _ _ _⟩ | go_keep)
          (first | (go_at_call 38; (with_reducible refine (PK0.out _).mono ?_); rintro e wz ⟨rfl, rfl⟩) | (go_at_call 38; (with_reducible refine (PK1.out _).mono ?_); rintro e wz ⟨rfl, rfl⟩))
        all_goals
          go_wp2_with fail
          go_meet
          case rel => exact ⟨wr.heap.size, rfl, ⟨blk_drew (blk_new wr _)⟩, ⟨below_drew ((Below.refl _ wr).alloc (Nat.le_refl _) _)⟩, ⟨Nat.le_refl _⟩⟩
      case rest =>
        obtain ⟨gy, rfl, HY, HBr, HGY⟩ := hcut
        have HM2 := Aside0.mk (HM.out.below HBr.out)
        have HBX := Aside0.mk (pw_cell_below HBr.out HB0.out)
        have HBY := Aside0.mk (pw_cell_below HBr.out HB1.out)
        have hb0 := HBX.out
        have hb1 := HBY.out
        have x0 : wc.cell? ⟨gy, 0, none⟩ = some (.int .i64 (j0 : Int)) := (blk_cell HY.out 0).trans rfl
        have x1 : wc.cell? ⟨gy, 1, none⟩ = some (.int .i64 (j1 : Int)) := (blk_cell HY.out 1).trans rfl
        have x2 : wc.cell? ⟨gy, 2, none⟩ = some (.int .i64 0) := (blk_cell HY.out 2).trans rfl
        have f2 := blk_frozen HY.out 2
        have e2 := HE2.out wc HBr.out
        have m2 : wc.cell? ⟨w.heap.size, 2, none⟩ = some (.slice (some ad) x.bs.length d) := (blk_cell HM2.out.box 2).trans rfl
        have r0 := eq_true (show (j0 : Int) < (NN : Int) by have := HLT0.out; omega)
        have r1 := eq_true (show (0 : Int) ≤ (j0 : Int) by omega)
        have r2 := eq_true (show (j1 : Int) < (NN : Int) by have := HLT0.out; omega)
        have r3 := eq_true (show (0 : Int) ≤ (j1 : Int) by omega)
        have hw1 := HW.out.1
        have hw2 := HW.out.2
        clear e0 e1 k0 k2
        go_upto_region 7 with (fail)
        refine wp_region_still_tail 20 (by kernel_rfl) (by kernel_rfl) ?_
        simp only [List.take_succ_cons, List.take_zero, List.drop_succ_cons, List.drop_zero]
        repeat still_step
        still_call (PK2.out _)
        repeat still_step
        refine wpStill_nil ?_
        go_upto_region 8 with (fail)
        have hM3 := HM.out.below (below_drew (HBr.out.setCell (p := ⟨gy, 2, none⟩) HGY.out (.int .i64 (z1 - z0 + p2))))
        have hY3 := blk_drew (blk_put HY.out 2 (.int .i64 (z1 - z0 + p2)) rfl)
        generalize (wc.setCell ⟨gy, 2, none⟩ (.int .i64 (z1 - z0 + p2))).drew = W3 at hM3 hY3 ⊢
        have HM3 := Aside0.mk hM3
        have s0 : W3.cell? ⟨gy, 0, none⟩ = some (.int .i64 (j0 : Int)) := (blk_cell hY3 0).trans rfl
        have s1 : W3.cell? ⟨gy, 1, none⟩ = some (.int .i64 (j1 : Int)) := (blk_cell hY3 1).trans rfl
        have s2 : W3.cell? ⟨gy, 2, none⟩ = some (.int .i64 (z1 - z0 + p2)) := (blk_cell hY3 2).trans rfl
        have s3 : W3.cell? ⟨g, 1, none⟩ = some V := (blk_cell HM3.out.bb 1).trans rfl
        clear x0 x1 x2 f2 e2 m2 hb0 hb1 r0 r1 r2 r3 hw1 hw2 hM3 hY3
        go_wp2_with (at_builtin; refine wpList_append_lies _ rfl _ _ 28 rfl (g + 1) 35 i35 _ 3 24 Try.underlying28 HI35.out.1 HI35.out.2.1 HI35.out.2.2.1 HI35.out.2.2.2 rfl (by decide) V i (flat ((baseL x).take i)) rfl (HM3.out.own.alloc _) ⟨W3.heap.size, 0, none⟩ 1 1 [.int .i64 (j0 : Int), .int .i64 (j1 : Int), .int .i64 (z1 - z0 + p2)] rfl rfl (World.news_of_block (cs := #[.int .i64 (j0 : Int), .int .i64 (j1 : Int), .int .i64 (z1 - z0 + p2)]) (t := 35) (fr := (0, 0)) (heap_alloc_new W3 _)) (by simp [Value.oneCell']) (by omega) (by unfold maxLen; omega) (by omega) (by have := HM3.out.lt; simp; omega) (W3.heap.size + 1) (by simp) ?_; intro gg cap w3 hown3 hgrow hat hlt; have HOWN3 := Aside0.mk hown3; have HG3 := Aside0.mk hgrow; have hbb3 := blk_grown (blk_alloc HM3.out.bb _) hgrow (fun e => by have := own_base HM3.out.own _ e.symm; omega); have t1 := (blk_cell hbb3 1).trans rfl; have t2 := blk_frozen hbb3 1; clear hown3 hgrow hat hlt hbb3)
        go_roundg (min 16 x.bs.length - i)
        case measure => have := HK.out; have := HI.out; omega
        case rel =>
          refine ⟨i + 1, .slice (some ⟨gg, 0, none⟩) (i + 1) cap, by go_num, ⟨by have := HK.out; have := HI.out; omega, by have := HI.out; omega⟩, ⟨?_⟩⟩
          refine MS.push HM3.out ?_ HG3.out
          rw [HSN.out, flat_snoc]
          exact HOWN3.out
    · have hin : i = min 16 x.bs.length := by have := HK.out; omega
      have HTK := Aside0.mk (show (baseL x).take i = baseL x from List.take_of_length_le (by rw [baseL_len]; omega))
      have HBL := Aside0.mk (show i = (baseL x).length from by rw [baseL_len]; omega)
      obtain ⟨AV, cV, rfl⟩ := own_slice HM.out.own
      have m0 : wr.cell? ⟨w.heap.size, 0, none⟩ = some (.int .i64 x.n) := (blk_cell HM.out.box 0).trans rfl
      have m1 : wr.cell? ⟨w.heap.size, 1, none⟩ = some (.slice A x.hs.length c) := (blk_cell HM.out.box 1).trans rfl
      have m3 : wr.cell? ⟨w.heap.size, 3, none⟩ = some (.int .i64 x.miss) := (blk_cell HM.out.box 3).trans rfl
      by_cases hlt : i < x.bs.length
      · have q1 := eq_true hlt
        have q2 := eq_false (show ¬ i < 16 by omega)
        have q5 : decide ((i : Int) < 16) = false := decide_eq_false (by omega)
        have q6 : decide ((i : Int) < (x.bs.length : Int)) = true := decide_eq_true (by omega)
        clear hi hlt hin
        go_wp2_with fail
        refine (misses_calls x _ wr (HNW.out.below HM.out.bel)).mono ?_
        rintro e w4 ⟨rfl, hw4⟩
        have HM4 := Aside0.mk (HM.out.below hw4)
        clear hw4 k2 m0 m1 m3
        have k0 : w4.cell? ⟨g, 0, none⟩ = some (.int .i64 (hidN x.n : Int)) := (blk_cell HM4.out.bb 0).trans rfl
        have k1 : w4.cell? ⟨g, 1, none⟩ = some (.slice AV i cV) := (blk_cell HM4.out.bb 1).trans rfl
        have p0 : w4.cell? ⟨w.heap.size + 1, 0, none⟩ = some (.int .i64 0) := (blk_cell HM4.out.res 0).trans rfl
        have p1 : w4.cell? ⟨w.heap.size + 1, 1, none⟩ = some (.slice none 0 0) := (blk_cell HM4.out.res 1).trans rfl
        have f0 := blk_frozen HM4.out.res 0
        have f1 := blk_frozen HM4.out.res 1
        by_cases hm : missB x.miss = true
        · by_cases hpos : 0 < i
          · have hposb : decide ((0 : Int) < (i : Int)) = true := decide_eq_true (by omega)
            have hposq := eq_true hpos
            have k3 : w4.cell? ⟨w.heap.size, 3, none⟩ = some (.int .i64 x.miss) := (blk_cell HM4.out.box 3).trans rfl
            have HMB := Aside0.mk hm
            have HPOS := Aside0.mk hpos
            have hd3 : IntKind.i64.wrap (Int.tdiv x.miss 3) = Int.tdiv x.miss 3 := IntWalk.i64_in _ (tdiv_range HMI.out 3 (by omega))
            have hd60 : IntKind.i64.wrap (Int.tdiv x.miss 60) = Int.tdiv x.miss 60 := IntWalk.i64_in _ (tdiv_range HMI.out 60 (by omega))
            have HD3 := Aside0.mk (show I64 (Int.tdiv x.miss 3) from tdiv_range HMI.out 3 (by omega))
            have HD60 := Aside0.mk (show I64 (Int.tdiv x.miss 60) from tdiv_range HMI.out 60 (by omega))
            have HTD := Aside0.mk (And.intro hd3 hd60)
            clear hd60
            rw [hm]
            go_wp2_with fail
            obtain ⟨k, hk⟩ : ∃ k : Nat, pickP (Int.tdiv x.miss 3) (i : Int) = (k : Int) := ⟨(pickP (Int.tdiv x.miss 3) (i : Int)).toNat, by have := pickP_range (Int.tdiv x.miss 3) (i : Int) (by have := HPOS.out; omega); omega⟩
            have hki : k < i := by have := pickP_range (Int.tdiv x.miss 3) (i : Int) (by have := HPOS.out; omega); omega
            refine (pick1 _ _ k _ HD3.out (by have := HPOS.out; omega) hk).mono ?_
            rintro e w4 ⟨rfl, rfl⟩
            have hbr := baseL_range x k (by rw [← HBL.out]; exact hki)
            have hlk : lessK x.miss (baseL x) = k := by unfold lessK; rw [← HBL.out, hk, Int.toNat_natCast]
            have hls : lessL x.miss (baseL x) = (baseL x).set k (lessT x.miss ((baseL x).getD k z35)) := by unfold lessL; rw [if_pos ⟨HMB.out, by rw [← HBL.out]; exact HPOS.out⟩, hlk]
            have hown := HM4.out.own
            rw [HTK.out] at hown
            obtain ⟨gv, cap, hE, hgv, _⟩ := hown.form HPOS.out
            simp only [Value.slice.injEq] at hE
            obtain ⟨rfl, _, rfl⟩ := hE
            have hfg := (flat_get (baseL x) k (by rw [← HBL.out]; exact hki)).2.2
            have hcell := (hown.cellAt (k * 3 + 2) (by omega)).trans hfg
            have hfr := hown.frozenAt (k * 3 + 2)
            have hpr := pickP_range (Int.tdiv x.miss 60) 60 (by omega)
            obtain ⟨p, hp⟩ : ∃ p, pickP (Int.tdiv x.miss 60) 60 = p := ⟨_, rfl⟩
            rw [hp] at hpr
            have hfs := flat_set (baseL x) k (((baseL x).getD k z35).f2 - 10 - p) (by rw [← HBL.out]; exact hki)
            have hlt : lessT x.miss ((baseL x).getD k z35) = ⟨((baseL x).getD k z35).f0, ((baseL x).getD k z35).f1, ((baseL x).getD k z35).f2 - 10 - p⟩ := by unfold lessT; rw [hp]
            have hst := (hown.stored (k * 3 + 2) (.int .i64 (((baseL x).getD k z35).f2 - 10 - p))).1
            rw [← hfs, ← hlt, ← hls] at hst
            generalize ((baseL x).getD k z35).f2 = bf at hbr hcell hst
            have hw1 : IntKind.i64.wrap (bf - 10) = bf - 10 := IntWalk.i64_in _ (by omega)
            have hw2 : IntKind.i64.wrap (bf - 10 - p) = bf - 10 - p := IntWalk.i64_in _ (by omega)
            have hd60 := HTD.out.2
            have q7 := eq_true (show (k : Int) < (i : Int) by omega)
            have q8 := eq_true (show (0 : Int) ≤ (k : Int) by omega)
            have HP := Aside0.mk hp
            have HST := Aside0.mk hst
            have HGV := Aside0.mk hgv
            have HKI := Aside0.mk hki
            have hfs2 := hfs
            clear hbr hk hlk hls hown hfg hpr hp hfs hlt hst hgv hki hfs2 k0 p0 p1 f0 f1
            go_upto_region 11 with (fail)
            refine wp_region_still_tail 15 (by kernel_rfl) (by kernel_rfl) ?_
            simp only [List.take_succ_cons, List.take_zero, List.drop_succ_cons, List.drop_zero]
            repeat still_step
            still_call (pick1 _ _ p _ HD60.out (by decide) HP.out)
            repeat still_step
            refine wpStill_nil ?_
            go_upto_region 12 with (fail)
            have hbb5 := blk_drew (blk_far HM4.out.bb (p := ⟨gv, k * 3 + 2, none⟩) (by have := HGV.out; simp only; omega) (.int .i64 (bf - 10 - p)))
            have hrr5 := blk_drew (blk_far HM4.out.res (p := ⟨gv, k * 3 + 2, none⟩) (by have := HGV.out; have := HM4.out.big; simp only; omega) (.int .i64 (bf - 10 - p)))
            have hbel5 := below_drew (HM4.out.bel.setCell (p := ⟨gv, k * 3 + 2, none⟩) (by have := HGV.out; have := HM4.out.big; simp only; omega) (.int .i64 (bf - 10 - p)))
            have hst5 : ((w4.setCell ⟨gv, k * 3 + 2, none⟩ (.int .i64 (bf - 10 - p))).drew).ownsRow (g + 1) 35 3 (.slice (some ⟨gv, 0, none⟩) i cV) i (flat (lessL x.miss (baseL x))) := own_move HST.out (fun _ _ => rfl)
            generalize (w4.setCell ⟨gv, k * 3 + 2, none⟩ (.int .i64 (bf - 10 - p))).drew = W5 at hbb5 hrr5 hbel5 hst5 ⊢
            have k0 : W5.cell? ⟨g, 0, none⟩ = some (.int .i64 (hidN x.n : Int)) := (blk_cell hbb5 0).trans rfl
            have k1 : W5.cell? ⟨g, 1, none⟩ = some (.slice (some ⟨gv, 0, none⟩) i cV) := (blk_cell hbb5 1).trans rfl
            have p0 : W5.cell? ⟨w.heap.size + 1, 0, none⟩ = some (.int .i64 0) := (blk_cell hrr5 0).trans rfl
            have p1 : W5.cell? ⟨w.heap.size + 1, 1, none⟩ = some (.slice none 0 0) := (blk_cell hrr5 1).trans rfl
            have f0 := blk_frozen hrr5 0
            have f1 := blk_frozen hrr5 1
            have HR5 := Aside0.mk hrr5
            have HS5 := Aside0.mk hst5
            have HB5 := Aside0.mk hbel5
            clear hbb5 hrr5 hbel5 hst5 hw1 hw2 hcell hfr hd60 q7 q8
            go_wp2_with fail
            refine bodyPost_ret (results_cell_row rfl _ _ (w.heap.size + 1) 30 #[.int .i64 (hidN x.n : Int), .slice (some ⟨gv, 0, none⟩) i cV] (0, 0) _ rfl (blk_put (cs := #[.int .i64 (hidN x.n : Int), .slice none 0 0]) (blk_put (cs := #[.int .i64 0, .slice none 0 0]) HR5.out 0 (.int .i64 (hidN x.n : Int)) rfl) 1 (.slice (some ⟨gv, 0, none⟩) i cV) rfl) Try.underlying30 rfl (by kernel_rfl)) rfl ?_
            refine ⟨_, rfl, ?_, (HB5.out.setCell (p := ⟨w.heap.size + 1, 0, none⟩) (by simp only; omega) _).setCell (p := ⟨w.heap.size + 1, 1, none⟩) (by simp only; omega) _⟩
            unfold madeL
            refine Bw_own (base := g + 1) ?_ (by rw [lessL_len, HBL.out])
            exact own_move HS5.out (fun b hb => by
              have := own_base HS5.out b hb
              have := HM4.out.big
              exact (Below.heap_setCell _ _ _ b (by simp only; omega)).trans (Below.heap_setCell _ _ _ b (by simp only; omega)))
          · skip
            have HLE := Aside0.mk (show lessL x.miss (baseL x) = baseL x from by unfold lessL; rw [if_neg (by rintro ⟨_, h⟩; have := HBL.out; omega)])
            have hposq := eq_false hpos
            have hposb : decide ((0 : Int) < (i : Int)) = false := decide_eq_false (by omega)
            rw [hm]
            clear hm hpos
            go_wp2_with fail
            refine bodyPost_ret (results_cell_row rfl _ _ (w.heap.size + 1) 30 #[.int .i64 (hidN x.n : Int), .slice AV i cV] (0, 0) _ rfl (blk_put (cs := #[.int .i64 (hidN x.n : Int), .slice none 0 0]) (blk_put (cs := #[.int .i64 0, .slice none 0 0]) HM4.out.res 0 (.int .i64 (hidN x.n : Int)) rfl) 1 (.slice AV i cV) rfl) Try.underlying30 rfl (by kernel_rfl)) rfl ?_
            refine ⟨_, rfl, ?_, (HM4.out.bel.setCell (p := ⟨w.heap.size + 1, 0, none⟩) (by simp only; omega) _).setCell (p := ⟨w.heap.size + 1, 1, none⟩) (by simp only; omega) _⟩
            unfold madeL
            rw [HLE.out]
            refine Bw_own (base := g + 1) ?_ (by rw [HBL.out])
            have hown := HM4.out.own
            rw [HTK.out] at hown
            exact own_move hown (fun b hb => by
              have := own_base hown b hb
              have := HM4.out.big
              exact (Below.heap_setCell _ _ _ b (by simp only; omega)).trans (Below.heap_setCell _ _ _ b (by simp only; omega)))
        · have HLE := Aside0.mk (show lessL x.miss (baseL x) = baseL x from by unfold lessL; rw [if_neg (by rintro ⟨h, _⟩; exact hm h)])
          have hmf : missB x.miss = false := by simpa using hm
          rw [hmf]
          clear hm hmf
          go_wp2_with fail
          refine bodyPost_ret (results_cell_row rfl _ _ (w.heap.size + 1) 30 #[.int .i64 (hidN x.n : Int), .slice AV i cV] (0, 0) _ rfl (blk_put (cs := #[.int .i64 (hidN x.n : Int), .slice none 0 0]) (blk_put (cs := #[.int .i64 0, .slice none 0 0]) HM4.out.res 0 (.int .i64 (hidN x.n : Int)) rfl) 1 (.slice AV i cV) rfl) Try.underlying30 rfl (by kernel_rfl)) rfl ?_
          refine ⟨_, rfl, ?_, (HM4.out.bel.setCell (p := ⟨w.heap.size + 1, 0, none⟩) (by simp only; omega) _).setCell (p := ⟨w.heap.size + 1, 1, none⟩) (by simp only; omega) _⟩
          unfold madeL
          rw [HLE.out]
          refine Bw_own (base := g + 1) ?_ (by rw [HBL.out])
          have hown := HM4.out.own
          rw [HTK.out] at hown
          exact own_move hown (fun b hb => by
            have := own_base hown b hb
            have := HM4.out.big
            exact (Below.heap_setCell _ _ _ b (by simp only; omega)).trans (Below.heap_setCell _ _ _ b (by simp only; omega)))
      · have q1 := eq_false hlt
        have q6 : decide ((i : Int) < (x.bs.length : Int)) = false := decide_eq_false (by omega)
        clear hi hlt hin
        go_wp2_with fail
        refine (misses_calls x _ wr (HNW.out.below HM.out.bel)).mono ?_
        rintro e w4 ⟨rfl, hw4⟩
        have HM4 := Aside0.mk (HM.out.below hw4)
        clear hw4 k2 m0 m1 m3
        have k0 : w4.cell? ⟨g, 0, none⟩ = some (.int .i64 (hidN x.n : Int)) := (blk_cell HM4.out.bb 0).trans rfl
        have k1 : w4.cell? ⟨g, 1, none⟩ = some (.slice AV i cV) := (blk_cell HM4.out.bb 1).trans rfl
        have p0 : w4.cell? ⟨w.heap.size + 1, 0, none⟩ = some (.int .i64 0) := (blk_cell HM4.out.res 0).trans rfl
        have p1 : w4.cell? ⟨w.heap.size + 1, 1, none⟩ = some (.slice none 0 0) := (blk_cell HM4.out.res 1).trans rfl
        have f0 := blk_frozen HM4.out.res 0
        have f1 := blk_frozen HM4.out.res 1
        by_cases hm : missB x.miss = true
        · by_cases hpos : 0 < i
          · have hposb : decide ((0 : Int) < (i : Int)) = true := decide_eq_true (by omega)
            have hposq := eq_true hpos
            have k3 : w4.cell? ⟨w.heap.size, 3, none⟩ = some (.int .i64 x.miss) := (blk_cell HM4.out.box 3).trans rfl
            have HMB := Aside0.mk hm
            have HPOS := Aside0.mk hpos
            have hd3 : IntKind.i64.wrap (Int.tdiv x.miss 3) = Int.tdiv x.miss 3 := IntWalk.i64_in _ (tdiv_range HMI.out 3 (by omega))
            have hd60 : IntKind.i64.wrap (Int.tdiv x.miss 60) = Int.tdiv x.miss 60 := IntWalk.i64_in _ (tdiv_range HMI.out 60 (by omega))
            have HD3 := Aside0.mk (show I64 (Int.tdiv x.miss 3) from tdiv_range HMI.out 3 (by omega))
            have HD60 := Aside0.mk (show I64 (Int.tdiv x.miss 60) from tdiv_range HMI.out 60 (by omega))
            have HTD := Aside0.mk (And.intro hd3 hd60)
            clear hd60
            rw [hm]
            go_wp2_with fail
            obtain ⟨k, hk⟩ : ∃ k : Nat, pickP (Int.tdiv x.miss 3) (i : Int) = (k : Int) := ⟨(pickP (Int.tdiv x.miss 3) (i : Int)).toNat, by have := pickP_range (Int.tdiv x.miss 3) (i : Int) (by have := HPOS.out; omega); omega⟩
            have hki : k < i := by have := pickP_range (Int.tdiv x.miss 3) (i : Int) (by have := HPOS.out; omega); omega
            refine (pick1 _ _ k _ HD3.out (by have := HPOS.out; omega) hk).mono ?_
            rintro e w4 ⟨rfl, rfl⟩
            have hbr := baseL_range x k (by rw [← HBL.out]; exact hki)
            have hlk : lessK x.miss (baseL x) = k := by unfold lessK; rw [← HBL.out, hk, Int.toNat_natCast]
            have hls : lessL x.miss (baseL x) = (baseL x).set k (lessT x.miss ((baseL x).getD k z35)) := by unfold lessL; rw [if_pos ⟨HMB.out, by rw [← HBL.out]; exact HPOS.out⟩, hlk]
            have hown := HM4.out.own
            rw [HTK.out] at hown
            obtain ⟨gv, cap, hE, hgv, _⟩ := hown.form HPOS.out
            simp only [Value.slice.injEq] at hE
            obtain ⟨rfl, _, rfl⟩ := hE
            have hfg := (flat_get (baseL x) k (by rw [← HBL.out]; exact hki)).2.2
            have hcell := (hown.cellAt (k * 3 + 2) (by omega)).trans hfg
            have hfr := hown.frozenAt (k * 3 + 2)
            have hpr := pickP_range (Int.tdiv x.miss 60) 60 (by omega)
            obtain ⟨p, hp⟩ : ∃ p, pickP (Int.tdiv x.miss 60) 60 = p := ⟨_, rfl⟩
            rw [hp] at hpr
            have hfs := flat_set (baseL x) k (((baseL x).getD k z35).f2 - 10 - p) (by rw [← HBL.out]; exact hki)
            have hlt : lessT x.miss ((baseL x).getD k z35) = ⟨((baseL x).getD k z35).f0, ((baseL x).getD k z35).f1, ((baseL x).getD k z35).f2 - 10 - p⟩ := by unfold lessT; rw [hp]
            have hst := (hown.stored (k * 3 + 2) (.int .i64 (((baseL x).getD k z35).f2 - 10 - p))).1
            rw [← hfs, ← hlt, ← hls] at hst
            generalize ((baseL x).getD k z35).f2 = bf at hbr hcell hst
            have hw1 : IntKind.i64.wrap (bf - 10) = bf - 10 := IntWalk.i64_in _ (by omega)
            have hw2 : IntKind.i64.wrap (bf - 10 - p) = bf - 10 - p := IntWalk.i64_in _ (by omega)
            have hd60 := HTD.out.2
            have q7 := eq_true (show (k : Int) < (i : Int) by omega)
            have q8 := eq_true (show (0 : Int) ≤ (k : Int) by omega)
            have HP := Aside0.mk hp
            have HST := Aside0.mk hst
            have HGV := Aside0.mk hgv
            have HKI := Aside0.mk hki
            have hfs2 := hfs
            clear hbr hk hlk hls hown hfg hpr hp hfs hlt hst hgv hki hfs2 k0 p0 p1 f0 f1
            go_upto_region 11 with (fail)
            refine wp_region_still_tail 15 (by kernel_rfl) (by kernel_rfl) ?_
            simp only [List.take_succ_cons, List.take_zero, List.drop_succ_cons, List.drop_zero]
            repeat still_step
            still_call (pick1 _ _ p _ HD60.out (by decide) HP.out)
            repeat still_step
            refine wpStill_nil ?_
            go_upto_region 12 with (fail)
            have hbb5 := blk_drew (blk_far HM4.out.bb (p := ⟨gv, k * 3 + 2, none⟩) (by have := HGV.out; simp only; omega) (.int .i64 (bf - 10 - p)))
            have hrr5 := blk_drew (blk_far HM4.out.res (p := ⟨gv, k * 3 + 2, none⟩) (by have := HGV.out; have := HM4.out.big; simp only; omega) (.int .i64 (bf - 10 - p)))
            have hbel5 := below_drew (HM4.out.bel.setCell (p := ⟨gv, k * 3 + 2, none⟩) (by have := HGV.out; have := HM4.out.big; simp only; omega) (.int .i64 (bf - 10 - p)))
            have hst5 : ((w4.setCell ⟨gv, k * 3 + 2, none⟩ (.int .i64 (bf - 10 - p))).drew).ownsRow (g + 1) 35 3 (.slice (some ⟨gv, 0, none⟩) i cV) i (flat (lessL x.miss (baseL x))) := own_move HST.out (fun _ _ => rfl)
            generalize (w4.setCell ⟨gv, k * 3 + 2, none⟩ (.int .i64 (bf - 10 - p))).drew = W5 at hbb5 hrr5 hbel5 hst5 ⊢
            have k0 : W5.cell? ⟨g, 0, none⟩ = some (.int .i64 (hidN x.n : Int)) := (blk_cell hbb5 0).trans rfl
            have k1 : W5.cell? ⟨g, 1, none⟩ = some (.slice (some ⟨gv, 0, none⟩) i cV) := (blk_cell hbb5 1).trans rfl
            have p0 : W5.cell? ⟨w.heap.size + 1, 0, none⟩ = some (.int .i64 0) := (blk_cell hrr5 0).trans rfl
            have p1 : W5.cell? ⟨w.heap.size + 1, 1, none⟩ = some (.slice none 0 0) := (blk_cell hrr5 1).trans rfl
            have f0 := blk_frozen hrr5 0
            have f1 := blk_frozen hrr5 1
            have HR5 := Aside0.mk hrr5
            have HS5 := Aside0.mk hst5
            have HB5 := Aside0.mk hbel5
            clear hbb5 hrr5 hbel5 hst5 hw1 hw2 hcell hfr hd60 q7 q8
            go_wp2_with fail
            refine bodyPost_ret (results_cell_row rfl _ _ (w.heap.size + 1) 30 #[.int .i64 (hidN x.n : Int), .slice (some ⟨gv, 0, none⟩) i cV] (0, 0) _ rfl (blk_put (cs := #[.int .i64 (hidN x.n : Int), .slice none 0 0]) (blk_put (cs := #[.int .i64 0, .slice none 0 0]) HR5.out 0 (.int .i64 (hidN x.n : Int)) rfl) 1 (.slice (some ⟨gv, 0, none⟩) i cV) rfl) Try.underlying30 rfl (by kernel_rfl)) rfl ?_
            refine ⟨_, rfl, ?_, (HB5.out.setCell (p := ⟨w.heap.size + 1, 0, none⟩) (by simp only; omega) _).setCell (p := ⟨w.heap.size + 1, 1, none⟩) (by simp only; omega) _⟩
            unfold madeL
            refine Bw_own (base := g + 1) ?_ (by rw [lessL_len, HBL.out])
            exact own_move HS5.out (fun b hb => by
              have := own_base HS5.out b hb
              have := HM4.out.big
              exact (Below.heap_setCell _ _ _ b (by simp only; omega)).trans (Below.heap_setCell _ _ _ b (by simp only; omega)))
          · skip
            have HLE := Aside0.mk (show lessL x.miss (baseL x) = baseL x from by unfold lessL; rw [if_neg (by rintro ⟨_, h⟩; have := HBL.out; omega)])
            have hposq := eq_false hpos
            have hposb : decide ((0 : Int) < (i : Int)) = false := decide_eq_false (by omega)
            rw [hm]
            clear hm hpos
            go_wp2_with fail
            refine bodyPost_ret (results_cell_row rfl _ _ (w.heap.size + 1) 30 #[.int .i64 (hidN x.n : Int), .slice AV i cV] (0, 0) _ rfl (blk_put (cs := #[.int .i64 (hidN x.n : Int), .slice none 0 0]) (blk_put (cs := #[.int .i64 0, .slice none 0 0]) HM4.out.res 0 (.int .i64 (hidN x.n : Int)) rfl) 1 (.slice AV i cV) rfl) Try.underlying30 rfl (by kernel_rfl)) rfl ?_
            refine ⟨_, rfl, ?_, (HM4.out.bel.setCell (p := ⟨w.heap.size + 1, 0, none⟩) (by simp only; omega) _).setCell (p := ⟨w.heap.size + 1, 1, none⟩) (by simp only; omega) _⟩
            unfold madeL
            rw [HLE.out]
            refine Bw_own (base := g + 1) ?_ (by rw [HBL.out])
            have hown := HM4.out.own
            rw [HTK.out] at hown
            exact own_move hown (fun b hb => by
              have := own_base hown b hb
              have := HM4.out.big
              exact (Below.heap_setCell _ _ _ b (by simp only; omega)).trans (Below.heap_setCell _ _ _ b (by simp only; omega)))
        · have HLE := Aside0.mk (show lessL x.miss (baseL x) = baseL x from by unfold lessL; rw [if_neg (by rintro ⟨h, _⟩; exact hm h)])
          have hmf : missB x.miss = false := by simpa using hm
          rw [hmf]
          clear hm hmf
          go_wp2_with fail
          refine bodyPost_ret (results_cell_row rfl _ _ (w.heap.size + 1) 30 #[.int .i64 (hidN x.n : Int), .slice AV i cV] (0, 0) _ rfl (blk_put (cs := #[.int .i64 (hidN x.n : Int), .slice none 0 0]) (blk_put (cs := #[.int .i64 0, .slice none 0 0]) HM4.out.res 0 (.int .i64 (hidN x.n : Int)) rfl) 1 (.slice AV i cV) rfl) Try.underlying30 rfl (by kernel_rfl)) rfl ?_
          refine ⟨_, rfl, ?_, (HM4.out.bel.setCell (p := ⟨w.heap.size + 1, 0, none⟩) (by simp only; omega) _).setCell (p := ⟨w.heap.size + 1, 1, none⟩) (by simp only; omega) _⟩
          unfold madeL
          rw [HLE.out]
          refine Bw_own (base := g + 1) ?_ (by rw [HBL.out])
          have hown := HM4.out.own
          rw [HTK.out] at hown
          exact own_move hown (fun b hb => by
            have := own_base hown b hb
            have := HM4.out.big
            exact (Below.heap_setCell _ _ _ b (by simp only; omega)).trans (Below.heap_setCell _ _ _ b (by simp only; omega)))
end Go.Proofs.Ytlokeimfmbgigaa.Bk

set_option linter.unusedVariables false
namespace Go.Proofs.Ytlokeimfmbgigaa.Pl
open Go.RowKit Go.Proofs.YtlokeimfmbgigaaW.PrintWords
open Go.Proofs.Ytlokeimfmbgigaa.Ref Go.Proofs.Ytlokeimfmbgigaa.Bk
theorem missB_zero : missB 0 = false := rfl
theorem lessL_zero (l : List S35) : lessL 0 l = l := by unfold lessL; rw [if_neg (by rintro ⟨h, _⟩; cases h)]
theorem lessL_not {miss : Int} (h : missB miss = false) (l : List S35) : lessL miss l = l := by unfold lessL; rw [if_neg (by rintro ⟨h', _⟩; rw [h] at h'; cases h')]
theorem base_at (x : Nums) {b : S35} (hb : b ∈ baseL x) : ∃ t, b = madeB (hidN x.n) x.hs t := by
  obtain ⟨t, _, rfl⟩ := List.mem_map.1 hb
  exact ⟨t, rfl⟩
theorem madeB_in (n : Nat) (hs : List Int) (t : Int × Int × Int) (hn : 1 ≤ n) : (0 ≤ (madeB n hs t).f0 ∧ (madeB n hs t).f0 ≤ (n : Int) - 1) ∧ (0 ≤ (madeB n hs t).f1 ∧ (madeB n hs t).f1 ≤ (n : Int) - 1) ∧ -200 ≤ (madeB n hs t).f2 ∧ (madeB n hs t).f2 ≤ 300 := by
  unfold madeB
  have h1 := hidV_range hs (pickP t.2.1 n).toNat
  have h2 := hidV_range hs (pickP t.1 n).toNat
  have h3 := pickP_range t.2.2 30 (by omega)
  have h4 := pickP_range t.1 n (by omega)
  have h5 := pickP_range t.2.1 n (by omega)
  simp only
  omega
theorem base_in (x : Nums) {b : S35} (hb : b ∈ baseL x) : (0 ≤ b.f0 ∧ b.f0 ≤ (hidN x.n : Int) - 1) ∧ (0 ≤ b.f1 ∧ b.f1 ≤ (hidN x.n : Int) - 1) ∧ -200 ≤ b.f2 ∧ b.f2 ≤ 300 := by
  obtain ⟨t, rfl⟩ := base_at x hb
  exact madeB_in _ _ _ (hidN_range x.n).1
theorem made_in (x : Nums) {b : S35} (hb : b ∈ madeL x) : (0 ≤ b.f0 ∧ b.f0 ≤ (hidN x.n : Int) - 1) ∧ (0 ≤ b.f1 ∧ b.f1 ≤ (hidN x.n : Int) - 1) ∧ -300 ≤ b.f2 ∧ b.f2 ≤ 300 := by
  unfold madeL lessL at hb
  split at hb
  · rename_i hc
    rcases List.mem_or_eq_of_mem_set hb with h | rfl
    · have := base_in x h; omega
    · have hk : lessK x.miss (baseL x) < (baseL x).length := by
        unfold lessK
        have := pickP_range (Int.tdiv x.miss 3) (baseL x).length (by omega)
        omega
      have hm : (baseL x).getD (lessK x.miss (baseL x)) z35 ∈ baseL x := by
        rw [List.getD_eq_getElem?_getD, List.getElem?_eq_getElem hk]; exact List.getElem_mem hk
      have := base_in x hm
      have h3 := pickP_range (Int.tdiv x.miss 60) 60 (by omega)
      unfold lessT
      simp only
      omega
  · have := base_in x hb; omega
theorem valid_of {n : Nat} {l : List S35} (hn : n ≤ 16) (hl : l.length ≤ 60) (h : ∀ b ∈ l, (0 ≤ b.f0 ∧ b.f0 ≤ (n : Int) - 1) ∧ (0 ≤ b.f1 ∧ b.f1 ≤ (n : Int) - 1) ∧ -1000000000 ≤ b.f2 ∧ b.f2 ≤ 1000000000) : validB n l = true := by
  unfold validB
  simp only [Bool.and_eq_true, decide_eq_true_eq, List.all_eq_true]
  refine ⟨⟨by omega, hl⟩, fun b hb => ?_⟩
  have := h b hb
  unfold boundB
  simp only [Bool.and_eq_true, decide_eq_true_eq]
  omega
theorem made_valid (x : Nums) : validB (hidN x.n) (madeL x) = true :=
  valid_of (by have := hidN_range x.n; omega) (by have := madeL_len x; omega) fun b hb => by have := made_in x hb; omega
theorem base_valid (x : Nums) : validB (hidN x.n) (baseL x) = true :=
  valid_of (by have := hidN_range x.n; omega) (by rw [baseL_len]; omega) fun b hb => by have := base_in x hb; omega
theorem hidL_get (n : Int) (hs : List Int) {j : Nat} (hj : j < hidN n) : (hidL n hs).getD j 0 = hidV hs j := by
  rw [List.getD_eq_getElem?_getD]
  simp [hidL, hj]
theorem base_allowed (x : Nums) : allowedB (hidN x.n) (baseL x) (hidL x.n x.hs) = true := by
  unfold allowedB
  simp only [Bool.and_eq_true, decide_eq_true_eq, List.all_eq_true]
  refine ⟨⟨⟨base_valid x, by rw [hidL_len]⟩, fun v hv => ?_⟩, fun b hb => ?_⟩
  · obtain ⟨i, _, rfl⟩ := List.mem_map.1 hv
    have := hidV_range x.hs i
    unfold nearB
    rw [decide_eq_true_eq]
    omega
  · obtain ⟨t, rfl⟩ := base_at x hb
    unfold keepB
    rw [decide_eq_true_eq]
    have hr := hidN_range x.n
    have h4 := pickP_range t.1 (hidN x.n) (by omega)
    have h5 := pickP_range t.2.1 (hidN x.n) (by omega)
    have h3 := pickP_range t.2.2 30 (by omega)
    simp only [rd, madeB]
    rw [hidL_get _ _ (by omega), hidL_get _ _ (by omega)]
    omega
theorem close_iff {n : Nat} {l : List S35} (hv : validB n l = true) : closeB n l = true ↔ Fine n (bds l) := by
  unfold closeB
  rw [hv, Bool.true_and, Int.toNat_natCast]
  exact fineB_iff hv
theorem base_close (x : Nums) : closeB (hidN x.n) (baseL x) = true := (close_iff (base_valid x)).2 (by have := allowed_fine (base_allowed x); rwa [Int.toNat_natCast] at this)
theorem valid_in {n : Nat} {l : List S35} (hv : validB n l = true) : In n (bds l) := by have := bds_in hv; rwa [Int.toNat_natCast] at this
theorem valid_16 {n : Nat} {l : List S35} (hv : validB n l = true) : n ≤ 16 := by have := valid_n hv; omega
/-- The least sums of valid bounds without contradiction are small. -/
theorem dist_small {n : Nat} {l : List S35} (hv : validB n l = true) (hf : Fine n (bds l)) {i k : Nat} (hi : i < n) (hk : k < n) {x : Int} (hx : distT n (bds l) i k = some x) : -16000000000 ≤ x ∧ x ≤ 16000000000 := by
  have hL := dist_least (valid_in hv) hf
  obtain ⟨m, hc⟩ := (hL.1 i k x hx).chN
  obtain ⟨m', s', h1, h2, h3, h4⟩ := hc.short (valid_in hv) hf m
  obtain ⟨y, hy, hle⟩ := hL.2 i k s' hi hk h4.ch
  rw [hx] at hy
  have : x = y := by injection hy
  have hb := h4.bd (bds_small hv)
  have := valid_16 hv
  omega
theorem distI_eq {n : Nat} {l : List S35} (hv : validB n l = true) (i k : Nat) : distI n (bds l) i k = encF (distT n (bds l) i k) := by
  rw [← dist_tie (valid_16 hv) (bds_small hv)]
  rfl
/-- Close's table: a distance, or Far. -/
theorem dist_cases {n : Nat} {l : List S35} (hv : validB n l = true) (hf : Fine n (bds l)) {i k : Nat} (hi : i < n) (hk : k < n) :
    (distT n (bds l) i k = none ∧ distI n (bds l) i k = Far) ∨ ∃ x, distT n (bds l) i k = some x ∧ distI n (bds l) i k = x ∧ -16000000000 ≤ x ∧ x ≤ 16000000000 := by
  rw [distI_eq hv]
  cases h : distT n (bds l) i k with
  | none => exact .inl ⟨rfl, rfl⟩
  | some x => exact .inr ⟨x, rfl, rfl, dist_small hv hf hi hk h⟩
theorem sol_tie {D : Tb} {k n : Nat} (h : ∀ i, i < n → BdO 100000000000000000 (D i k)) : ∀ m, m ≤ n → solI (encT D) k m = solT D k m := by
  intro m
  induction m with
  | zero => intro _; rfl
  | succ m ih =>
    intro hm
    have e := ih (by omega)
    simp only [solI, e]
    have h0 := solT_zero D k m
    rcases solT_succ D k m with ⟨h1, h2⟩ | ⟨x, h1, h2⟩
    · rw [h2]
      show min (solT D k m) (encF (D m k)) = _
      rw [h1]
      show min (solT D k m) Far = _
      unfold Far
      omega
    · rw [h2]
      show min (solT D k m) (encF (D m k)) = _
      rw [h1]
      rfl
theorem sol_eq {n : Nat} {l : List S35} (hv : validB n l = true) (k : Nat) : solI (distI n (bds l)) k n = solT (distT n (bds l)) k n := by
  rw [← dist_tie (valid_16 hv) (bds_small hv)]
  exact sol_tie (n := n) (fun i _ => (dist_bd (valid_16 hv) (bds_small hv) i k).mono (by omega)) n (Nat.le_refl _)
section
variable {n : Nat} {l : List S35} (h : closeB n l = true)
include h
theorem close_valid : validB n l = true := by unfold closeB at h; exact (Bool.and_eq_true _ _ ▸ h).1
theorem close_fine : Fine n (bds l) := (close_iff (close_valid h)).1 h
theorem close_least : Least (bds l) n (distT n (bds l)) := dist_least (valid_in (close_valid h)) (close_fine h)
theorem solveL_eq : solveL n l = rowL n (fun k => solT (distT n (bds l)) k n) := by
  unfold solveL
  rw [if_pos h, Int.toNat_natCast]
  congr 1
  funext k
  exact sol_eq (close_valid h) k
theorem solveL_len : (solveL n l).length = n := by rw [solveL_eq h, rowL_len]
theorem solveL_get {j : Nat} (hj : j < n) : (solveL n l).getD j 0 = solT (distT n (bds l)) j n := by
  rw [solveL_eq h, List.getD_eq_getElem?_getD]
  simp [rowL, hj]
theorem sol_small {j : Nat} (hj : j < n) : -16000000000 ≤ solT (distT n (bds l)) j n ∧ solT (distT n (bds l)) j n ≤ 0 := by
  refine ⟨?_, solT_zero _ _ _⟩
  rcases solT_got (distT n (bds l)) j n with e | ⟨i, hi, e⟩
  · omega
  · exact (dist_small (close_valid h) (close_fine h) hi hj e).1
theorem solve_allowed : allowedB n l (solveL n l) = true := by
  unfold allowedB
  simp only [Bool.and_eq_true, decide_eq_true_eq]
  refine ⟨⟨⟨close_valid h, by rw [solveL_len h]⟩, List.all_eq_true.2 fun v hv => ?_⟩, (keeps_iff _ _).2 fun e he => ?_⟩
  · rw [solveL_eq h] at hv
    obtain ⟨j, hj, rfl⟩ := List.mem_map.1 hv
    have := sol_small h (List.mem_range.1 hj)
    unfold nearB
    rw [decide_eq_true_eq]
    omega
  · obtain ⟨h1, h2⟩ := valid_in (close_valid h) e he
    simp only
    rw [solveL_get h h1, solveL_get h h2]
    exact solT_keeps (close_least h) (close_fine h) (valid_in (close_valid h)) e he
theorem solve_le {j : Nat} (hj : j < n) : (solveL n l).getD j 0 ≤ 0 := by rw [solveL_get h hj]; exact solT_zero _ _ _
theorem solve_great {x : Nat → Int} (hx : Keeps (bds l) x) (h0 : ∀ i, i < n → x i ≤ 0) {j : Nat} (hj : j < n) : x j ≤ (solveL n l).getD j 0 := by
  rw [solveL_get h hj]
  exact solT_greatest (close_least h) hx h0 hj
theorem solve_zero (hn : 0 < n) : ∃ j, j < n ∧ (solveL n l).getD j 0 = 0 := by
  by_cases hz : ∃ j, j < n ∧ solT (distT n (bds l)) j n = 0
  · obtain ⟨j, hj, e⟩ := hz
    exact ⟨j, hj, by rw [solveL_get h hj, e]⟩
  · exfalso
    have hk := solT_keeps (close_least h) (close_fine h) (valid_in (close_valid h))
    have := solT_greatest (close_least h) (x := fun k => solT (distT n (bds l)) k n + 1) (fun e he => by have := hk e he; simp only at this ⊢; omega) (fun i hi => by
      have h0 := solT_zero (distT n (bds l)) i n
      have : solT (distT n (bds l)) i n ≠ 0 := fun e => hz ⟨i, hi, e⟩
      omega) hn
    omega
end
theorem allowed_keeps {n : Int} {l : List S35} {x : List Int} (h : allowedB n l x = true) : Keeps (bds l) (fun j => x.getD j 0) := by
  unfold allowedB at h
  rw [Bool.and_eq_true] at h
  exact (keeps_iff l x).1 h.2
/-- The greatest of the numbers so far. -/
def topK (h : List Int) : Nat → Int
  | 0 => h.getD 0 0
  | i + 1 => max (topK h i) (h.getD i 0)
theorem topK_le (h : List Int) (n : Nat) : ∀ j, j < n → h.getD j 0 ≤ topK h n := by
  induction n with
  | zero => intro j hj; omega
  | succ n ih =>
    intro j hj
    simp only [topK]
    by_cases he : j = n
    · subst he; omega
    · have := ih j (by omega); omega
theorem topK_range {h : List Int} {lo hi : Int} (hh : ∀ j, lo ≤ h.getD j 0 ∧ h.getD j 0 ≤ hi) (n : Nat) : lo ≤ topK h n ∧ topK h n ≤ hi := by
  induction n with
  | zero => exact hh 0
  | succ n ih => simp only [topK]; have := hh n; omega
def zeroK (s : List Int) : Nat → Bool
  | 0 => false
  | i + 1 => zeroK s i || s.getD i 0 == 0
theorem zeroK_at {s : List Int} {j n : Nat} (hj : j < n) (h : s.getD j 0 = 0) : zeroK s n = true := by
  induction n with
  | zero => omega
  | succ n ih =>
    simp only [zeroK]
    by_cases he : j = n
    · subst he; rw [h]; simp
    · rw [ih (by omega)]; rfl
theorem hidL_range (n : Int) (hs : List Int) (j : Nat) : -100 ≤ (hidL n hs).getD j 0 ∧ (hidL n hs).getD j 0 ≤ 99 := by
  by_cases hj : j < hidN n
  · rw [hidL_get _ _ hj]; exact hidV_range hs j
  · rw [List.getD_eq_getElem?_getD, List.getElem?_eq_none (by rw [hidL_len]; omega)]
    decide
/-- The law Solves. -/
theorem solves_law (x : Nums) (p : Int) (hp : 0 ≤ p) {j : Nat} (hj : j < hidN x.n) :
    (hidL x.n x.hs).getD j 0 - topK (hidL x.n x.hs) (hidN x.n) - p ≤ (solveL (hidN x.n) (baseL x)).getD j 0 := by
  refine solve_great (base_close x) (x := fun j => (hidL x.n x.hs).getD j 0 - topK (hidL x.n x.hs) (hidN x.n) - p) (fun e he => ?_) (fun i hi => ?_) hj
  · have := allowed_keeps (base_allowed x) e he
    simp only at this ⊢
    omega
  · have := topK_le (hidL x.n x.hs) (hidN x.n) i hi
    omega
end Go.Proofs.Ytlokeimfmbgigaa.Pl

set_option linter.unusedVariables false
namespace Go.Proofs.Ytlokeimfmbgigaa.Bk
open Go.RowKit Go.Shelf Go.Proofs.YtlokeimfmbgigaaW.PrintWords Go.Proofs.YtlokeimfmbgigaaW.PrintLast Go.Proofs.YtlokeimfmbgigaaW.PrintMore
open Go.Proofs.Ytlokeimfmbgigaa.Ref Go.Proofs.Ytlokeimfmbgigaa.Pl

/-- Two slices that are the lists of some Numbers. -/
def Ns (w : World) (x : Nums) (s1 s2 : Value) : Prop := ∃ A c B d, s1 = .slice A x.hs.length c ∧ s2 = .slice B x.bs.length d ∧ I64 x.n ∧ (∀ h ∈ x.hs, I64 h) ∧ Kd.C (Kd.int .i64) w A x.hs.length x.hs ∧ Trip w B x.bs ∧ x.hs.length ≤ 9223372036854775807 ∧ x.bs.length ≤ 9223372036854775807
/-- Numbers in a box. -/
def Xb (w0 w : World) (x : Nums) (s1 s2 : Value) : Prop := w.heap[w0.heap.size]? = some (.cells #[.int .i64 x.n, s1, s2, .int .i64 x.miss] 25 (0, 0)) ∧ Ns w0 x s1 s2 ∧ I64 x.miss ∧ Below w0.heap.size w0 w
theorem Xb.start {w0 : World} {x : Nums} {v : Value} (h : Nw w0 x v) : ∃ s1 s2, v = .agg #[.int .i64 x.n, s1, s2, .int .i64 x.miss] ∧ Xb w0 (w0.alloc (.cells #[.int .i64 x.n, s1, s2, .int .i64 x.miss] 25)) x s1 s2 := by
  obtain ⟨A, c, B, d, rfl, h1, h2, h3, h4, h5, h6, h7⟩ := h
  exact ⟨_, _, rfl, blk_new w0 _, ⟨A, c, B, d, rfl, rfl, h1, h3, h4, h5, h6, h7⟩, h2, (Below.refl _ w0).alloc (Nat.le_refl _) _⟩
section
variable {w0 w w' : World} {x : Nums} {s1 s2 : Value}
theorem Xb.below (h : Xb w0 w x s1 s2) (hb : Below w.heap.size w w') : Xb w0 w' x s1 s2 := ⟨blk_below h.1 hb, h.2.1, h.2.2.1, below_step h.2.2.2 hb⟩
theorem Xb.c0 (h : Xb w0 w x s1 s2) : w.cell? ⟨w0.heap.size, 0, none⟩ = some (.int .i64 x.n) := (blk_cell h.1 0).trans rfl
theorem Xb.c1 (h : Xb w0 w x s1 s2) : w.cell? ⟨w0.heap.size, 1, none⟩ = some s1 := (blk_cell h.1 1).trans rfl
theorem Xb.c2 (h : Xb w0 w x s1 s2) : w.cell? ⟨w0.heap.size, 2, none⟩ = some s2 := (blk_cell h.1 2).trans rfl
theorem Xb.c3 (h : Xb w0 w x s1 s2) : w.cell? ⟨w0.heap.size, 3, none⟩ = some (.int .i64 x.miss) := (blk_cell h.1 3).trans rfl
theorem Xb.f3 (h : Xb w0 w x s1 s2) : w.frozen? ⟨w0.heap.size, 3, none⟩ = false := blk_frozen h.1 3
theorem Xb.bel (h : Xb w0 w x s1 s2) : Below w0.heap.size w0 w := h.2.2.2
/-- x.Miss = 0. -/
theorem Xb.zero (h : Xb w0 w x s1 s2) : Xb w0 (w.setCell ⟨w0.heap.size, 3, none⟩ (.int .i64 0)) ⟨x.n, x.hs, x.bs, 0⟩ s1 s2 :=
  ⟨blk_put h.1 3 _ rfl, h.2.1, by unfold I64; simp only; omega, h.2.2.2.setCell (p := ⟨w0.heap.size, 3, none⟩) (Nat.le_refl _) _⟩
theorem Xb.nw (h : Xb w0 w x s1 s2) : Nw w x (.agg #[.int .i64 x.n, s1, s2, .int .i64 x.miss]) := by
  obtain ⟨_, ⟨A, c, B, d, rfl, rfl, h1, h3, h4, h5, h6, h7⟩, h2, hb⟩ := h
  exact ⟨A, c, B, d, rfl, h1, h2, h3, Kd.C_below h4 hb, h5.below hb, h6, h7⟩
end
/-- Bounds in a box. -/
def Yb (w0 w : World) (g : Nat) (n : Int) (A : Option Addr) (k c : Nat) (l : List S35) : Prop := w.heap[g]? = some (.cells #[.int .i64 n, .slice A k c] 30 (0, 0)) ∧ Kd.C k35 w A l.length l ∧ l.length ≤ c ∧ l.length = k ∧ w0.heap.size ≤ g
section
variable {w0 w w' : World} {g : Nat} {n : Int} {A : Option Addr} {k c : Nat} {l : List S35}
theorem Yb.below (h : Yb w0 w g n A k c l) (hb : Below w.heap.size w w') : Yb w0 w' g n A k c l := ⟨blk_below h.1 hb, Kd.C_below h.2.1 hb, h.2.2⟩
theorem Yb.bw (h : Yb w0 w g n A k c l) : Bw w n l (.agg #[.int .i64 n, .slice A k c]) := ⟨A, c, by rw [h.2.2.2.1], h.2.2.1, h.2.1⟩
theorem Yb.c0 (h : Yb w0 w g n A k c l) : w.cell? ⟨g, 0, none⟩ = some (.int .i64 n) := (blk_cell h.1 0).trans rfl
theorem Yb.c1 (h : Yb w0 w g n A k c l) : w.cell? ⟨g, 1, none⟩ = some (.slice A k c) := (blk_cell h.1 1).trans rfl
theorem Bw.box {v : Value} (h : Bw w n l v) (hg : w0.heap.size ≤ w.heap.size) : ∃ A k c, v = .agg #[.int .i64 n, .slice A k c] ∧ k = l.length ∧ Yb w0 (w.alloc (.cells #[.int .i64 n, .slice A k c] 30)) w.heap.size n A k c l := by
  obtain ⟨A, c, rfl, h1, h2⟩ := h
  exact ⟨A, l.length, c, rfl, rfl, blk_new w _, Kd.C_below h2 ((Below.refl _ w).alloc (Nat.le_refl _) _), h1, rfl, hg⟩
end
theorem pickL0 (c n : Int) (hc : I64 c) (hn : 0 < n) (w : World) : Calls Try.prog 13 #[.int .i64 c, .int .i64 n] w fun e w' => e = .returned (.int .i64 (pickP c n)) ∧ w' = w := by
  have c5b0 : (n == 0) = false := beq_eq_false_iff_ne.mpr (by omega)
  have c5b1 : (n != 0) = true := bne_iff_ne.mpr (by omega)
  unfold I64 at hc
  by_cases h : c < 0
  · have hb : decide (c < 0) = true := decide_eq_true h
    have e1 : IntKind.i64.wrap (c + 1) = c + 1 := IntWalk.i64_in _ (by omega)
    have e2 : IntKind.i64.wrap (-(c + 1)) = -(c + 1) := IntWalk.i64_in _ (by omega)
    have hp : pickP c n = Int.tmod (-(c + 1)) n := by unfold pickP; rw [if_pos h]
    have HP := Aside0.mk hp
    clear h hp hc
    go_enter Try.func13, Try.ntmps13
    go_wp2_with fail
    go_ret
    rw [HP.out]
    exact ⟨by first | rfl | (simp; done), rfl⟩
  · have hb : decide (c < 0) = false := decide_eq_false h
    have hp : pickP c n = Int.tmod c n := by unfold pickP; rw [if_neg h]
    have HP := Aside0.mk hp
    clear h hp hc
    go_enter Try.func13, Try.ntmps13
    go_wp2_with fail
    go_ret
    rw [HP.out]
    exact ⟨rfl, rfl⟩
theorem pickL1 (c n r : Int) (w : World) (hc : I64 c) (hn : 0 < n) (hr : pickP c n = r) : Calls Try.prog 13 #[.int .i64 c, .int .i64 n] w fun e w' => e = .returned (.int .i64 r) ∧ w' = w := hr ▸ pickL0 c n hc hn w
/-- Hidden's row, read. -/
theorem hiddenV {w : World} {x : Nums} {v : Value} (h : Nw w x v) : Calls Try.prog 12 #[v] w fun e w' => ∃ u, e = .returned u ∧ Iw w' (hidL x.n x.hs) u ∧ Below w.heap.size w w' :=
  (hidden_calls x v w h).mono fun e w' ⟨u, he, hown, hb⟩ => by
    refine ⟨u, he, ?_, hb⟩
    have hr := hidN_range x.n
    rw [hidL_len] at hown
    obtain ⟨g, cap, rfl, _, _⟩ := hown.form (by omega)
    refine ⟨some ⟨g, 0, none⟩, cap, by rw [hidL_len], ?_, C_ints (by rw [hidL_len]; omega) fun j y hj => ?_⟩
    · rw [hidL_len]
      rcases hown.2 with ⟨h0, _⟩ | ⟨g', cap', cur, e, _, _, h2, _⟩
      · cases h0
      · simp only [Value.slice.injEq] at e; omega
    · have hjl : j < hidN x.n := by have := (List.getElem?_eq_some_iff.1 hj).1; rwa [hidL_len] at this
      rw [hown.cellAt j (by omega)]
      simp only [intsR, List.getElem?_map, hj, Option.map_some]
theorem Iw.at {w : World} {ks : List Int} {A : Option Addr} {k c : Nat} (h : Iw w ks (.slice A k c)) {j : Nat} (hj : j < ks.length) : ∃ ad, A = some ad ∧ w.cell? (ad.add j) = some (.int .i64 (ks.getD j 0)) := by
  obtain ⟨B, d, e, h1, h2⟩ := h
  injection e with e1 e2 e3
  subst e1
  exact ints_at h2 hj
theorem Iw.form {w : World} {ks : List Int} {v : Value} (h : Iw w ks v) : ∃ A k c, v = .slice A k c ∧ k = ks.length ∧ k ≤ c := by
  obtain ⟨B, d, rfl, h1, h2⟩ := h
  exact ⟨B, _, d, rfl, rfl, h1⟩
end Go.Proofs.Ytlokeimfmbgigaa.Bk

namespace Go.Proofs.Ytlokeimfmbgigaa.Bk
open Go Go.RowKit Go.ChangeShapes Go.WideShapes Go.ChangeAt
open Go.Proofs.YtlokeimfmbgigaaW.PrintWords
open Go.Proofs.Ytlokeimfmbgigaa.Ref Go.Proofs.Ytlokeimfmbgigaa.Pl

theorem add_succ (ad : Addr) (i : Nat) : ad.add (i + 1) = ⟨ad.block, ad.off + (i + 1), none⟩ := by simp [Addr.add]
theorem cells26 : Try.prog.cellsOf 26 = 3 := by kernel_rfl
theorem cells3_ : Try.prog.cellsOf 3 = 1 := by kernel_rfl
theorem cells22 : Try.prog.cellsOf 22 = 1 := by kernel_rfl
theorem cells23 : Try.prog.cellsOf 23 = 1 := by kernel_rfl
theorem cells25 : Try.prog.cellsOf 25 = 4 := by kernel_rfl
theorem cells28 : Try.prog.cellsOf 28 = 1 := by kernel_rfl
theorem cells30 : Try.prog.cellsOf 30 = 2 := by kernel_rfl
theorem cells35 : Try.prog.cellsOf 35 = 3 := by kernel_rfl
theorem I64_of_wf {n : Int} (h : (Lit.int .i64 n).wf = true) : I64 n := by
  have := bounds_i64 h
  unfold I64
  omega
section
variable {H : Type} {enc : TypeId × Value → H} {W : World} {base : Nat} {spare : Nat → Bool} {held : Bool} {fuel : Nat} {x : DataW H × List MemPlace}
theorem ints_of_trod {v : Value} (h : DataW.trod enc Try.prog W base spare held fuel 22 [v] = some x) :
    ∃ A c, ∃ ks : List Int, v = .slice A ks.length c ∧ ks.length ≤ c ∧ ks.length ≤ maxLen ∧ (∀ k ∈ ks, I64 k) ∧ Kd.C (Kd.int .i64) W A ks.length ks := by
  rcases Go.Deep.open_slice Try.underlying22 h with ⟨hcs, _⟩ | ⟨ad, len, c, m, n, D, Q, hcs, _, hl, hm, hmm, _, hx⟩
  · simp at hcs
    subst hcs
    exact ⟨none, 0, [], rfl, Nat.le_refl _, by unfold maxLen; simp, fun k hk => by simp at hk, Kd.C_nil _ _⟩
  · simp at hcs
    subst hcs
    have hlm : len ≤ m := by rw [hmm]; split <;> omega
    rw [cells3_] at hx
    have key : ∀ i, i < len → ∃ y : Int, I64 y ∧ W.cell? (ad.add i) = some (.int .i64 y) := by
      intro i hi
      obtain ⟨cs', h1, h2⟩ := hx i (by omega)
      obtain ⟨_, h3, h4⟩ := World.cells?_some h1
      match cs', h3 with
      | [c0], _ =>
        obtain ⟨n0, e0, _, w0⟩ := DataW.trod_int Try.underlying3 h2
        simp at e0
        subst e0
        refine ⟨n0, I64_of_wf w0, ?_⟩
        have := h4 0 (by omega)
        rw [Go.Deep.add_add, Nat.mul_one, Nat.add_zero] at this
        exact this
    obtain ⟨F, hF⟩ := Go.Deep.choose_lt (α := Int) key
    have hlen : ((List.range len).map F).length = len := by simp
    refine ⟨some ad, c, (List.range len).map F, by rw [hlen], by rw [hlen]; exact hl, by rw [hlen]; omega, fun k hk => ?_, rfl, by rw [hlen]; unfold maxLen at hm; omega, fun _ => ⟨ad, rfl, fun j p hj => ?_⟩⟩
    · obtain ⟨i, hi, rfl⟩ := List.mem_map.1 hk
      exact (hF i (List.mem_range.1 hi)).1
    · have hjl : j < len := by have := (List.getElem?_eq_some_iff.1 hj).1; rwa [hlen] at this
      rw [List.getElem?_map, List.getElem?_range hjl] at hj
      simp only [Option.map_some, Option.some.injEq] at hj
      subst hj
      refine ⟨[.int .i64 (F j)], rfl, rfl, fun i u hi => ?_⟩
      cases i with
      | zero =>
        simp only [List.getElem?_cons_zero, Option.some.injEq] at hi
        subst hi
        rw [show j * (Kd.int IntKind.i64).sz + 0 = j from by show j * 1 + 0 = j; omega]
        exact (hF j hjl).2
      | succ i => simp at hi
theorem trip_of_trod {v : Value} (h : DataW.trod enc Try.prog W base spare held fuel 23 [v] = some x) :
    ∃ a cap, ∃ xs : List (Int × Int × Int), v = .slice a xs.length cap ∧ xs.length ≤ cap ∧ xs.length ≤ maxLen ∧ Trip W a xs := by
  rcases Go.Deep.open_slice Try.underlying23 h with ⟨hcs, _⟩ | ⟨ad, len, c, m, n, D, Q, hcs, _, hl, hm, hmm, _, hx⟩
  · simp at hcs
    subst hcs
    exact ⟨none, 0, [], rfl, Nat.le_refl _, by unfold maxLen; simp, fun x hx => by simp at hx, fun h0 => absurd h0 (by simp)⟩
  · simp at hcs
    subst hcs
    have hlm : len ≤ m := by rw [hmm]; split <;> omega
    rw [cells26] at hx
    have key : ∀ i, i < len → ∃ y : Int × Int × Int, (I64 y.1 ∧ I64 y.2.1 ∧ I64 y.2.2) ∧ W.cell? (ad.add (i * 3)) = some (.int .i64 y.1) ∧ W.cell? ⟨(ad.add (i * 3)).block, (ad.add (i * 3)).off + 1, none⟩ = some (.int .i64 y.2.1) ∧ W.cell? ⟨(ad.add (i * 3)).block, (ad.add (i * 3)).off + 2, none⟩ = some (.int .i64 y.2.2) := by
      intro i hi
      obtain ⟨cs', h1, h2⟩ := hx i (by omega)
      obtain ⟨_, h3, h4⟩ := World.cells?_some h1
      match cs', h3 with
      | [c0, c1, c2], _ =>
        obtain ⟨y0, y1, y2, k, _, t0, t1, t2⟩ := trod_array3 Try.underlying26 cells3_ h2
        obtain ⟨n0, e0, _, w0⟩ := DataW.trod_int Try.underlying3 t0
        obtain ⟨n1, e1, _, w1⟩ := DataW.trod_int Try.underlying3 t1
        obtain ⟨n2, e2, _, w2⟩ := DataW.trod_int Try.underlying3 t2
        simp at e0 e1 e2
        subst e0 e1 e2
        refine ⟨(n0, n1, n2), ⟨I64_of_wf w0, I64_of_wf w1, I64_of_wf w2⟩, ?_, ?_, ?_⟩
        · have := h4 0 (by omega); rw [Go.Deep.add_add] at this; exact this
        · have := h4 1 (by omega); rw [show (1 : Nat) = 0 + 1 from rfl, add_succ] at this; exact this
        · have := h4 2 (by omega); rw [show (2 : Nat) = 1 + 1 from rfl, add_succ] at this; exact this
    obtain ⟨F, hF⟩ := Go.Deep.choose_lt (α := Int × Int × Int) key
    have hlen : ((List.range len).map F).length = len := by simp
    refine ⟨some ad, c, (List.range len).map F, by rw [hlen], by rw [hlen]; exact hl, by rw [hlen]; omega, fun x hx => ?_, fun _ => ⟨ad, rfl, fun i hi => ?_⟩⟩
    · obtain ⟨i, hi, rfl⟩ := List.mem_map.1 hx
      exact (hF i (List.mem_range.1 hi)).1
    · simp only [List.length_map, List.length_range] at hi
      have e : ((List.range len).map F).getD i (0, 0, 0) = F i := by rw [List.getD_eq_getElem?_getD, List.getElem?_map, List.getElem?_range hi]; rfl
      rw [e]
      exact (hF i hi).2
theorem trod35 {c0 c1 c2 : Value} (h : DataW.trod enc Try.prog W base spare held fuel 35 [c0, c1, c2] = some x) : ∃ n0 n1 n2, c0 = .int .i64 n0 ∧ c1 = .int .i64 n1 ∧ c2 = .int .i64 n2 ∧ I64 n0 ∧ I64 n1 ∧ I64 n2 := by
  obtain ⟨xs, m, _, _, _, hl, hx⟩ := DataW.trod_struct Try.underlying35 h
  have hl2 : xs.length = 3 := hl
  have g0 : DataW.trod enc Try.prog W base spare held m 3 (List.take (Try.prog.cellsOf 3) (List.drop 0 [c0, c1, c2])) = xs[0]? := hx 0 _ rfl
  have g1 : DataW.trod enc Try.prog W base spare held m 3 (List.take (Try.prog.cellsOf 3) (List.drop 1 [c0, c1, c2])) = xs[1]? := hx 1 _ rfl
  have g2 : DataW.trod enc Try.prog W base spare held m 3 (List.take (Try.prog.cellsOf 3) (List.drop 2 [c0, c1, c2])) = xs[2]? := hx 2 _ rfl
  rw [cells3_] at g0 g1 g2
  obtain ⟨x0, hx0⟩ : ∃ x, xs[0]? = some x := ⟨_, List.getElem?_eq_getElem (by omega)⟩
  obtain ⟨x1, hx1⟩ : ∃ x, xs[1]? = some x := ⟨_, List.getElem?_eq_getElem (by omega)⟩
  obtain ⟨x2, hx2⟩ : ∃ x, xs[2]? = some x := ⟨_, List.getElem?_eq_getElem (by omega)⟩
  rw [hx0] at g0
  rw [hx1] at g1
  rw [hx2] at g2
  simp at g0 g1 g2
  obtain ⟨n0, e0, _, w0⟩ := DataW.trod_int Try.underlying3 g0
  obtain ⟨n1, e1, _, w1⟩ := DataW.trod_int Try.underlying3 g1
  obtain ⟨n2, e2, _, w2⟩ := DataW.trod_int Try.underlying3 g2
  simp at e0 e1 e2
  exact ⟨n0, n1, n2, e0, e1, e2, I64_of_wf w0, I64_of_wf w1, I64_of_wf w2⟩
end
theorem open_nums {H : Type} {enc : TypeId × Value → H} {W : World} {base base' : Nat} {spare : Nat → Bool} {held : Bool} {v : Value} {d : DataW H} {ps : List MemPlace}
    (hv : Value.okWide Try.prog W .any base' 25 v) (h : DataW.Trod enc Try.prog W base spare held 25 v d ps) : ∃ x : Nums, Nw W x v := by
  simp only [Value.okWide, Try.underlying25] at hv
  obtain ⟨cs, rfl, h2, _⟩ := hv
  rw [cells25] at h2
  obtain ⟨fuel, hf⟩ := h
  obtain ⟨c0, c1, c2, c3, rfl⟩ : ∃ c0 c1 c2 c3, cs = #[c0, c1, c2, c3] := by
    match cs, h2 with
    | ⟨[c0, c1, c2, c3]⟩, _ => exact ⟨c0, c1, c2, c3, rfl⟩
  simp [Value.cells] at hf
  obtain ⟨xs, m, _, _, _, hl, hx⟩ := DataW.trod_struct Try.underlying25 hf
  have hl2 : xs.length = 4 := hl
  have g0 : DataW.trod enc Try.prog W base spare held m 3 (List.take (Try.prog.cellsOf 3) (List.drop 0 [c0, c1, c2, c3])) = xs[0]? := hx 0 _ rfl
  have g1 : DataW.trod enc Try.prog W base spare held m 22 (List.take (Try.prog.cellsOf 22) (List.drop 1 [c0, c1, c2, c3])) = xs[1]? := hx 1 _ rfl
  have g2 : DataW.trod enc Try.prog W base spare held m 23 (List.take (Try.prog.cellsOf 23) (List.drop 2 [c0, c1, c2, c3])) = xs[2]? := hx 2 _ rfl
  have g3 : DataW.trod enc Try.prog W base spare held m 3 (List.take (Try.prog.cellsOf 3) (List.drop 3 [c0, c1, c2, c3])) = xs[3]? := hx 3 _ rfl
  rw [cells3_] at g0 g3
  rw [cells22] at g1
  rw [cells23] at g2
  obtain ⟨x0, hx0⟩ : ∃ x, xs[0]? = some x := ⟨_, List.getElem?_eq_getElem (by omega)⟩
  obtain ⟨x1, hx1⟩ : ∃ x, xs[1]? = some x := ⟨_, List.getElem?_eq_getElem (by omega)⟩
  obtain ⟨x2, hx2⟩ : ∃ x, xs[2]? = some x := ⟨_, List.getElem?_eq_getElem (by omega)⟩
  obtain ⟨x3, hx3⟩ : ∃ x, xs[3]? = some x := ⟨_, List.getElem?_eq_getElem (by omega)⟩
  rw [hx0] at g0
  rw [hx1] at g1
  rw [hx2] at g2
  rw [hx3] at g3
  simp at g0 g1 g2 g3
  obtain ⟨n0, e0, _, w0⟩ := DataW.trod_int Try.underlying3 g0
  obtain ⟨n3, e3, _, w3⟩ := DataW.trod_int Try.underlying3 g3
  simp at e0 e3
  obtain ⟨A, c, ks, rfl, _, hk2, hk3, hk4⟩ := ints_of_trod g1
  obtain ⟨B, d, ys, rfl, _, hy2, hy3⟩ := trip_of_trod g2
  subst e0 e3
  exact ⟨⟨n0, ks, ys, n3⟩, A, c, B, d, rfl, I64_of_wf w0, I64_of_wf w3, hk3, hk4, hy3, by unfold maxLen at hk2; omega, by unfold maxLen at hy2; omega⟩
theorem open_ints {H : Type} {enc : TypeId × Value → H} {W : World} {base base' : Nat} {spare : Nat → Bool} {held : Bool} {v : Value} {d : DataW H} {ps : List MemPlace}
    (hv : Value.okWide Try.prog W .any base' 22 v) (h : DataW.Trod enc Try.prog W base spare held 22 v d ps) : ∃ ks : List Int, Iw W ks v ∧ (∀ k ∈ ks, I64 k) ∧ ks.length ≤ 9223372036854775807 := by
  obtain ⟨a, len, cap, rfl⟩ := okWide_slice Try.underlying22 hv
  obtain ⟨fuel, hf⟩ := h
  obtain ⟨A, c, ks, e, h1, h2, h3, h4⟩ := ints_of_trod hf
  rw [e]
  exact ⟨ks, ⟨A, c, rfl, h1, h4⟩, h3, by unfold maxLen at h2; omega⟩
theorem open_three {H : Type} {enc : TypeId × Value → H} {W : World} {base base' : Nat} {spare : Nat → Bool} {held : Bool} {v : Value} {d : DataW H} {ps : List MemPlace}
    (hv : Value.okWide Try.prog W .any base' 26 v) (h : DataW.Trod enc Try.prog W base spare held 26 v d ps) : ∃ q0 q1 q2, v = .agg #[.int .i64 q0, .int .i64 q1, .int .i64 q2] ∧ I64 q0 ∧ I64 q1 ∧ I64 q2 := by
  simp only [Value.okWide, Try.underlying26] at hv
  obtain ⟨cs, rfl, h2, _⟩ := hv
  rw [cells26] at h2
  obtain ⟨fuel, hf⟩ := h
  obtain ⟨c0, c1, c2, rfl⟩ : ∃ c0 c1 c2, cs = #[c0, c1, c2] := by
    match cs, h2 with
    | ⟨[c0, c1, c2]⟩, _ => exact ⟨c0, c1, c2, rfl⟩
  simp [Value.cells] at hf
  obtain ⟨y0, y1, y2, k, _, t0, t1, t2⟩ := trod_array3 Try.underlying26 cells3_ hf
  obtain ⟨n0, e0, _, w0⟩ := DataW.trod_int Try.underlying3 t0
  obtain ⟨n1, e1, _, w1⟩ := DataW.trod_int Try.underlying3 t1
  obtain ⟨n2, e2, _, w2⟩ := DataW.trod_int Try.underlying3 t2
  simp at e0 e1 e2
  subst e0 e1 e2
  exact ⟨n0, n1, n2, rfl, I64_of_wf w0, I64_of_wf w1, I64_of_wf w2⟩
end Go.Proofs.Ytlokeimfmbgigaa.Bk
