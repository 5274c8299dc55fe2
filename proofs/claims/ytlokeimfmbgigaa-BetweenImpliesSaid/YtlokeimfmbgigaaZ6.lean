/- The functions by value; what the law's own check of the examples returns: true; Hidden. -/
import Derived.Test.YtlokeimfmbgigaaZ5
import Derived.Test.YtlokeimfmbgigaaZ2
import Derived.Test.YtlokeimfmbgigaaR1
set_option linter.unusedVariables false
set_option linter.unusedSimpArgs false
set_option linter.unusedVariables false
namespace Go.Proofs.Ytlokeimfmbgigaa.Bk
open Go.RowKit Go.Shelf Go.Proofs.YtlokeimfmbgigaaW.PrintWords Go.Proofs.YtlokeimfmbgigaaW.PrintLast Go.Proofs.YtlokeimfmbgigaaW.PrintMore
open Go.Proofs.Ytlokeimfmbgigaa.Ref Go.Proofs.Ytlokeimfmbgigaa.Pl

/-- A value that is bounds. -/
def Bw (w : World) (n : Int) (l : List S35) (v : Value) : Prop := ∃ A c, v = .agg #[.int .i64 n, .slice A l.length c] ∧ l.length ≤ c ∧ Kd.C k35 w A l.length l
/-- A value that is a list of numbers. -/
def Iw (w : World) (ks : List Int) (v : Value) : Prop := ∃ A c, v = .slice A ks.length c ∧ ks.length ≤ c ∧ Kd.C (Kd.int .i64) w A ks.length ks
/-- A value that is a table. -/
def Tw (w : World) (tb : List (List Int)) (v : Value) : Prop := ∃ A c, v = .slice A tb.length c ∧ tb.length ≤ c ∧ Kd.C (Kd.slice 3 (Kd.int .i64)) w A tb.length tb
def bdV (x : S35) : Value := .agg #[.int .i64 x.f0, .int .i64 x.f1, .int .i64 x.f2]
section
variable {w w' : World} {n : Int} {l : List S35} {ks : List Int} {tb : List (List Int)} {v : Value}
theorem Bw.below (h : Bw w n l v) (hb : Below w.heap.size w w') : Bw w' n l v := by
  obtain ⟨A, c, rfl, h1, h2⟩ := h
  exact ⟨A, c, rfl, h1, Kd.C_below h2 hb⟩
theorem Iw.below (h : Iw w ks v) (hb : Below w.heap.size w w') : Iw w' ks v := by
  obtain ⟨A, c, rfl, h1, h2⟩ := h
  exact ⟨A, c, rfl, h1, Kd.C_below h2 hb⟩
theorem Tw.below (h : Tw w tb v) (hb : Below w.heap.size w w') : Tw w' tb v := by
  obtain ⟨A, c, rfl, h1, h2⟩ := h
  exact ⟨A, c, rfl, h1, Kd.C_below h2 hb⟩
theorem Iw.nil (w : World) : Iw w [] (.slice none 0 0) := ⟨none, 0, rfl, Nat.le_refl _, Kd.C_nil _ _⟩
theorem Tw.nil (w : World) : Tw w [] (.slice none 0 0) := ⟨none, 0, rfl, Nat.le_refl _, Kd.C_nil _ _⟩
end
theorem C_ints {w : World} {g : Nat} {ks : List Int} (hl : ks.length ≤ 1000000) (h : ∀ j x, ks[j]? = some x → w.cell? ⟨g, j, none⟩ = some (.int .i64 x)) : Kd.C (Kd.int .i64) w (some ⟨g, 0, none⟩) ks.length ks := by
  refine ⟨rfl, by omega, fun _ => ⟨_, rfl, fun j p hj => ⟨[.int .i64 p], rfl, rfl, fun i u hi => ?_⟩⟩⟩
  cases i with
  | zero =>
    simp only [List.getElem?_cons_zero, Option.some.injEq] at hi
    subst hi
    rw [add_plain]
    show w.cell? ⟨g, j * 1 + 0, none⟩ = _
    rw [Nat.mul_one, Nat.add_zero]
    exact h j p hj
  | succ i => simp at hi
theorem Iw_own {w : World} {base : Nat} {v : Value} {ks : List Nat} (h : w.ownsRow base 3 1 v ks.length (natsV ks)) (hl : ks.length ≤ 1000000) : Iw w (ks.map fun (k : Nat) => (k : Int)) v := by
  rcases h.2 with ⟨rfl, h0⟩ | ⟨g, cap, cur, rfl, hb, hg, hn, hc, hsz, htk⟩
  · have : ks = [] := List.eq_nil_of_length_eq_zero h0
    subst this
    exact Iw.nil w
  · refine ⟨some ⟨g, 0, none⟩, cap, by rw [List.length_map], by rw [List.length_map]; exact hn, C_ints (by rw [List.length_map]; exact hl) (fun j x hj => ?_)⟩
    have hjl : j < ks.length := by have := (List.getElem?_eq_some_iff.1 hj).1; simpa using this
    rw [h.cellAt j (by omega)]
    simp only [natsV, List.getElem?_map] at hj ⊢
    rw [List.getElem?_eq_getElem hjl] at hj ⊢
    simp only [Option.map_some, Option.some.injEq] at hj ⊢
    rw [hj]
def rowL (n : Nat) (X : Nat → Int) : List Int := (List.range n).map X
def tblL (n : Nat) (D : Ti) : List (List Int) := (List.range n).map fun i => rowL n (D i)
theorem rowL_len (n : Nat) (X : Nat → Int) : (rowL n X).length = n := by simp [rowL]
theorem tblL_len (n : Nat) (D : Ti) : (tblL n D).length = n := by simp [tblL]
theorem rowL_get {n j : Nat} {X : Nat → Int} {x : Int} (h : (rowL n X)[j]? = some x) : j < n ∧ x = X j := by
  have hj : j < n := by have := (List.getElem?_eq_some_iff.1 h).1; rwa [rowL_len] at this
  simp only [rowL, List.getElem?_map, List.getElem?_range hj, Option.map_some, Option.some.injEq] at h
  exact ⟨hj, h.symm⟩
theorem Iw_row {w : World} {o n : Nat} {X : Nat → Int} (hn : n ≤ 16) (h : Row w o n X) (c : Nat) (hc : n ≤ c) : Iw w (rowL n X) (.slice (some ⟨o, 0, none⟩) n c) :=
  ⟨some ⟨o, 0, none⟩, c, by rw [rowL_len], by rw [rowL_len]; exact hc, C_ints (by rw [rowL_len]; omega) (fun j x hj => by obtain ⟨h1, rfl⟩ := rowL_get hj; exact h.cell h1)⟩
theorem Tw_table {w : World} {n base : Nat} {D : Ti} {v : Value} (hn : n ≤ 16) (h : Table n D base w v) : Tw w (tblL n D) v := by
  obtain ⟨g, rows, caps, rfl, hM⟩ := h
  refine ⟨some ⟨g, 0, none⟩, n, by rw [tblL_len], by rw [tblL_len]; exact Nat.le_refl _, rfl, by rw [tblL_len]; omega, fun _ => ⟨_, rfl, fun i p hi => ?_⟩⟩
  have hin : i < n := by have := (List.getElem?_eq_some_iff.1 hi).1; rwa [tblL_len] at this
  simp only [tblL, List.getElem?_map, List.getElem?_range hin, Option.map_some, Option.some.injEq] at hi
  subst hi
  have hrow : Row w (rows i) n (D i) := hM.inner i hin
  obtain ⟨A, c, e, h1, h2⟩ := Iw_row hn hrow (caps i) (hM.cap i hin)
  refine ⟨[.slice (some ⟨rows i, 0, none⟩) n (caps i)], rfl, ⟨A, c, by rw [e], h1, h2⟩, fun j u hj => ?_⟩
  cases j with
  | zero =>
    simp only [List.getElem?_cons_zero, Option.some.injEq] at hj
    subst hj
    rw [add_plain]
    show w.cell? ⟨g, i * 1 + 0, none⟩ = _
    rw [Nat.mul_one, Nat.add_zero]
    exact hM.row hin
  | succ j => simp at hj
def closeL (n : Int) (l : List S35) : List (List Int) := if closeB n l then tblL n.toNat (distI n.toNat (bds l)) else []
def solveL (n : Int) (l : List S35) : List Int := if closeB n l then rowL n.toNat (fun k => solI (distI n.toNat (bds l)) k n.toNat) else []
def impL (n : Int) (l : List S35) (x : S35) : List Int := if impliedB n l x then (impK l x).map (fun (k : Nat) => (k : Int)) else []
def cycL' (n : Int) (l : List S35) : List Int := if cycleB n l then (cycK l).map (fun (k : Nat) => (k : Int)) else []
theorem close_n {n : Int} {l : List S35} (h : closeB n l = true) : n.toNat ≤ 16 := by
  unfold closeB at h
  rw [Bool.and_eq_true] at h
  have := valid_n h.1
  omega
theorem leastM_le (l : List S35) (f t : Nat) (s : Int) : leastM l f t s ≤ 18 := by
  unfold leastM
  have := List.findIdx_le_length (xs := List.range 18) (p := fun m => decide (walkI (bds l) m f t ≤ s))
  simpa using this
theorem cycM_le (l : List S35) : cycM l ≤ 18 := by
  unfold cycM
  have := List.findIdx_le_length (xs := List.range 18) (p := anyC l)
  simpa using this
section
variable {w : World} {n : Int} {l : List S35} {v u : Value} {ks : List Int}
theorem validV (h : Bw w n l v) (b : Bool) (hr : validB n l = b) : Calls Try.prog 27 #[v] w fun e w' => e = .returned (.bool b) ∧ Below w.heap.size w w' := by
  obtain ⟨A, c, rfl, h1, h2⟩ := h
  exact hr ▸ valid_calls n l A c w h2
theorem allowedV (h : Bw w n l v) (h2 : Iw w ks u) (b : Bool) (hr : allowedB n l ks = b) : Calls Try.prog 18 #[v, u] w fun e w' => e = .returned (.bool b) ∧ Below w.heap.size w w' := by
  obtain ⟨A, c, rfl, h1, hC⟩ := h
  obtain ⟨X, cx, rfl, h3, hX⟩ := h2
  exact hr ▸ allowed_calls n l A c ks X cx w hC hX
theorem closeV (h : Bw w n l v) (tb : List (List Int)) (k : Int) (hr : closeL n l = tb) (hk : errC (closeB n l) = k) : Calls Try.prog 15 #[v] w fun e w' => ∃ t, e = .returned (.tuple #[t, .int .i64 k]) ∧ Tw w' tb t ∧ Below w.heap.size w w' := by
  obtain ⟨A, c, rfl, h1, hC⟩ := h
  subst hr hk
  refine (close_calls n l A c w hC).mono fun e w' ⟨t, he, hT, hF, hb⟩ => ⟨t, he, ?_, hb⟩
  unfold closeL
  cases hc : closeB n l with
  | true => exact Tw_table (close_n hc) (hT hc)
  | false => rw [hF hc]; exact Tw.nil w'
theorem solveV (h : Bw w n l v) (xs : List Int) (k : Int) (hr : solveL n l = xs) (hk : errC (closeB n l) = k) : Calls Try.prog 23 #[v] w fun e w' => ∃ t, e = .returned (.tuple #[t, .int .i64 k]) ∧ Iw w' xs t ∧ Below w.heap.size w w' := by
  obtain ⟨A, c, rfl, h1, hC⟩ := h
  subst hr hk
  refine (solve_calls n l A c w hC).mono fun e w' ⟨t, he, hT, hF, hb⟩ => ⟨t, he, ?_, hb⟩
  unfold solveL
  cases hc : closeB n l with
  | true =>
    obtain ⟨o, rfl, _, hR⟩ := hT hc
    exact Iw_row (close_n hc) hR _ (Nat.le_refl _)
  | false => rw [hF hc]; exact Iw.nil w'
theorem impliedV (h : Bw w n l v) (x : S35) (xs : List Int) (b : Bool) (hr : impL n l x = xs) (hb : impliedB n l x = b) : Calls Try.prog 14 #[v, bdV x] w fun e w' => ∃ t, e = .returned (.tuple #[t, .bool b]) ∧ Iw w' xs t ∧ Below w.heap.size w w' := by
  obtain ⟨A, c, rfl, h1, hC⟩ := h
  subst hr hb
  refine (implied_calls n l A c x w hC).mono fun e w' ⟨t, he, hT, hF, hb⟩ => ⟨t, he, ?_, hb⟩
  unfold impL
  cases hc : impliedB n l x with
  | true => exact Iw_own (hT hc) (by unfold impK; rw [chainK_len]; have := leastM_le l x.f0.toNat x.f1.toNat x.f2; omega)
  | false => rw [hF hc]; exact Iw.nil w'
theorem cycleV (h : Bw w n l v) (xs : List Int) (b : Bool) (hr : cycL' n l = xs) (hb : cycleB n l = b) : Calls Try.prog 25 #[v] w fun e w' => ∃ t, e = .returned (.tuple #[t, .bool b]) ∧ Iw w' xs t ∧ Below w.heap.size w w' := by
  obtain ⟨A, c, rfl, h1, hC⟩ := h
  subst hr hb
  refine (cycle_calls n l A c w hC).mono fun e w' ⟨t, he, hT, hF, hb⟩ => ⟨t, he, ?_, hb⟩
  unfold cycL'
  cases hc : cycleB n l with
  | true => exact Iw_own (hT hc) (by unfold cycK cycL; rw [List.length_cons, chainK_len]; have := cycM_le l; omega)
  | false => rw [hF hc]; exact Iw.nil w'
theorem checkCycleV (h : Bw w n l v) (h2 : Iw w ks u) (hl : ks.length ≤ 1000000) (b : Bool) (hr : checkCycleB n l ks = b) : Calls Try.prog 31 #[v, u] w fun e w' => e = .returned (.bool b) ∧ Below w.heap.size w w' := by
  obtain ⟨A, c, rfl, h1, hC⟩ := h
  obtain ⟨X, cx, rfl, h3, hX⟩ := h2
  exact hr ▸ checkCycle_calls n l A c ks X cx w hC h1 hX h3 hl
theorem checkChainV (h : Bw w n l v) (x : S35) (h2 : Iw w ks u) (hl : ks.length ≤ 1000000) (b : Bool) (hr : checkChainB n l x ks = b) : Calls Try.prog 33 #[v, bdV x, u] w fun e w' => e = .returned (.bool b) ∧ Below w.heap.size w w' := by
  obtain ⟨A, c, rfl, h1, hC⟩ := h
  obtain ⟨X, cx, rfl, h3, hX⟩ := h2
  exact hr ▸ checkChain_calls n l A c x ks X cx w hC h1 hX h3 hl
end
end Go.Proofs.Ytlokeimfmbgigaa.Bk

set_option linter.unusedVariables false
namespace Go.Proofs.Ytlokeimfmbgigaa.Pl
open Go.RowKit Go.Proofs.YtlokeimfmbgigaaW.PrintWords Go.Proofs.YtlokeimfmbgigaaW.PrintLast Go.Proofs.YtlokeimfmbgigaaW.PrintMore
open Go.Proofs.Ytlokeimfmbgigaa.Ref

theorem drop_rd (l : List Int) (i : Nat) (h : i < l.length) : l.drop i = rd l (i : Int) :: l.drop (i + 1) := by
  rw [List.drop_eq_getElem_cons h]
  unfold rd
  rw [Int.toNat_natCast, List.getD_eq_getElem?_getD, List.getElem?_eq_getElem h]
  rfl
theorem Ints_l (a b : List Int) (hab : a.length = b.length) (ha : a.length ≤ 1000000) (d : Nat) : ∀ (k i : Nat), a.length - i = d → i ≤ a.length → d < k → dialtoneref06_Ints.l0 k a b (i : Int) = some (decide (a.drop i = b.drop i)) := by
  induction d with
  | zero =>
    intro k i hd hi hk
    obtain ⟨k, rfl⟩ : ∃ m, k = m + 1 := ⟨k - 1, by omega⟩
    simp only [dialtoneref06_Ints.l0]
    rw [if_neg (by omega), List.drop_eq_nil_of_le (by omega), List.drop_eq_nil_of_le (by omega)]
    rfl
  | succ d ih =>
    intro k i hd hi hk
    obtain ⟨k, rfl⟩ : ∃ m, k = m + 1 := ⟨k - 1, by omega⟩
    simp only [dialtoneref06_Ints.l0]
    rw [if_pos (by omega : (i : Int) < (a.length : Int)), if_pos (by omega : (0 : Int) ≤ (i : Int)), if_pos (by omega : (i : Int) < (b.length : Int)), drop_rd a i (by omega), drop_rd b i (by omega)]
    by_cases he : rd a (i : Int) = rd b (i : Int)
    · rw [if_pos he, show wrap64 ((i : Int) + 1) = ((i + 1 : Nat) : Int) by unfold wrap64; omega, ih k (i + 1) (by omega) (by omega) (by omega), he]
      simp
    · rw [if_neg he]
      simp [he]
theorem Ints_f (a b : List Int) (ha : a.length ≤ 1000000) (k : Nat) (hk : a.length < k) : dialtoneref06_Ints.f k a b = some (decide (a = b)) := by
  unfold dialtoneref06_Ints.f
  by_cases h : a.length = b.length
  · rw [if_pos (by omega)]
    exact Ints_l a b h ha a.length k 0 (by omega) (by omega) hk
  · rw [if_neg (by omega), decide_eq_false (fun e => h (by rw [e]))]
theorem drop_rdL (l : List (List Int)) (i : Nat) (h : i < l.length) : l.drop i = rd_L1 l (i : Int) :: l.drop (i + 1) := by
  rw [List.drop_eq_getElem_cons h]
  unfold rd_L1
  rw [Int.toNat_natCast, List.getD_eq_getElem?_getD, List.getElem?_eq_getElem h]
  rfl
theorem Tables_l (a b : List (List Int)) (hab : a.length = b.length) (ha : a.length ≤ 1000000) (hr : ∀ r ∈ a, r.length ≤ 1000000) (d : Nat) : ∀ (k i : Nat), a.length - i = d → i ≤ a.length → d + 1000001 < k → dialtoneref06_Tables.l0 k a b (i : Int) = some (decide (a.drop i = b.drop i)) := by
  induction d with
  | zero =>
    intro k i hd hi hk
    obtain ⟨k, rfl⟩ : ∃ m, k = m + 1 := ⟨k - 1, by omega⟩
    simp only [dialtoneref06_Tables.l0]
    rw [if_neg (by omega), List.drop_eq_nil_of_le (by omega), List.drop_eq_nil_of_le (by omega)]
    rfl
  | succ d ih =>
    intro k i hd hi hk
    obtain ⟨k, rfl⟩ : ∃ m, k = m + 1 := ⟨k - 1, by omega⟩
    simp only [dialtoneref06_Tables.l0]
    have hlen : (rd_L1 a (i : Int)).length ≤ 1000000 := by
      unfold rd_L1
      rw [Int.toNat_natCast, List.getD_eq_getElem?_getD, List.getElem?_eq_getElem (by omega)]
      exact hr _ (List.getElem_mem _)
    rw [if_pos (by omega : (i : Int) < (a.length : Int)), if_pos (by omega : (0 : Int) ≤ (i : Int)), if_pos (by omega : (i : Int) < (b.length : Int)), Ints_f _ _ hlen k (by omega), drop_rdL a i (by omega), drop_rdL b i (by omega)]
    simp only [Option.bind_some]
    by_cases he : rd_L1 a (i : Int) = rd_L1 b (i : Int)
    · rw [if_pos (decide_eq_true he), show wrap64 ((i : Int) + 1) = ((i + 1 : Nat) : Int) by unfold wrap64; omega, ih k (i + 1) (by omega) (by omega) (by omega), he]
      simp
    · rw [if_neg (by rw [decide_eq_false he]; decide)]
      simp [he]
theorem Tables_f (a b : List (List Int)) (ha : a.length ≤ 1000000) (hr : ∀ r ∈ a, r.length ≤ 1000000) : dialtoneref06_Tables.f 3000000 a b = some (decide (a = b)) := by
  unfold dialtoneref06_Tables.f
  by_cases h : a.length = b.length
  · rw [if_pos (by omega)]
    exact Tables_l a b h ha hr a.length 3000000 0 (by omega) (by omega) (by omega)
  · rw [if_neg (by omega), decide_eq_false (fun e => h (by rw [e]))]
def I64 (n : Int) : Prop := -9223372036854775808 ≤ n ∧ n ≤ 9223372036854775807
def pickP (c n : Int) : Int := Int.tmod (if c < 0 then -(c + 1) else c) n
theorem pickP_range (c n : Int) (h : 0 < n) : 0 ≤ pickP c n ∧ pickP c n < n := by
  unfold pickP
  split
  · exact ⟨Int.tmod_nonneg _ (by omega), Int.tmod_lt_of_pos _ h⟩
  · exact ⟨Int.tmod_nonneg _ (by omega), Int.tmod_lt_of_pos _ h⟩
theorem pick_f (c n : Int) (hc : I64 c) (hn : 0 < n) : dialtoneref06_pick.f c n = some (pickP c n) := by
  unfold dialtoneref06_pick.f pickP
  unfold I64 at hc
  by_cases h : c < 0
  · rw [if_pos h, if_pos h, if_neg (by omega), show wrap64 (c + 1) = c + 1 by unfold wrap64; omega, show wrap64 (-(c + 1)) = -(c + 1) by unfold wrap64; omega]
  · rw [if_neg h, if_neg h, if_neg (by omega)]
theorem pickL_f (c n : Int) (hc : I64 c) (hn : 0 < n) : dialtonelaw06_pick.f c n = some (pickP c n) := by
  have := pick_f c n hc hn
  unfold dialtoneref06_pick.f at this
  unfold dialtonelaw06_pick.f
  exact this
end Go.Proofs.Ytlokeimfmbgigaa.Pl

set_option linter.unusedVariables false
namespace Go.Proofs.Ytlokeimfmbgigaa.Pl
open Go.RowKit Go.Proofs.YtlokeimfmbgigaaW.PrintWords
open Go.Proofs.Ytlokeimfmbgigaa.Ref Go.Proofs.Ytlokeimfmbgigaa.Bk
def exL (m : Int) : List S35 := [⟨0, 1, 5⟩, ⟨1, 2, -2⟩, ⟨2, 0, m⟩]
def exS : List S35 := [⟨0, 1, 5⟩, ⟨1, 2, -2⟩]
theorem ex1 : closeL 3 (exL 0) = [[0, 5, 3], [-2, 0, -2], [0, 5, 0]] := by kernel_rfl
theorem ex1e : errC (closeB 3 (exL 0)) = 0 := by kernel_rfl
theorem ex2 : solveL 3 (exL 0) = [-2, 0, -2] := by kernel_rfl
theorem ex3 : impL 3 (exL 0) ⟨0, 2, 3⟩ = [0, 1] := by kernel_rfl
theorem ex3b : impliedB 3 (exL 0) ⟨0, 2, 3⟩ = true := by kernel_rfl
theorem ex4 : impL 3 (exL 0) ⟨0, 2, 2⟩ = [] := by kernel_rfl
theorem ex4b : impliedB 3 (exL 0) ⟨0, 2, 2⟩ = false := by kernel_rfl
theorem ex5 : cycL' 3 (exL (-4)) = [0, 1, 2] := by kernel_rfl
theorem ex5b : cycleB 3 (exL (-4)) = true := by kernel_rfl
theorem ex6 : cycL' 3 (exL 0) = [] := by kernel_rfl
theorem ex6b : cycleB 3 (exL 0) = false := by kernel_rfl
theorem ex7 : solveL 3 (exL (-4)) = [] := by kernel_rfl
theorem ex7e : errC (closeB 3 (exL (-4))) = 60 := by kernel_rfl
theorem ex8 : closeL 3 exS = [[0, 5, 3], [1152921504606846976, 0, -2], [1152921504606846976, 1152921504606846976, 0]] := by kernel_rfl
theorem ex8e : errC (closeB 3 exS) = 0 := by kernel_rfl
theorem ex9 : checkCycleB 3 (exL (-4)) [1, 2, 0] = true := by kernel_rfl
theorem ex10 : checkCycleB 3 (exL 0) [0, 1, 2] = false := by kernel_rfl
theorem ex11 : checkChainB 3 (exL 0) ⟨0, 2, 3⟩ [0, 1] = true := by kernel_rfl
theorem ex12 : checkChainB 3 (exL 0) ⟨0, 2, 2⟩ [0, 1] = false := by kernel_rfl
theorem ex13 : validB 3 (exL 0) = true := by kernel_rfl
theorem ex14 : validB 17 [] = false := by kernel_rfl
theorem ex15 : allowedB 3 (exL 0) [-2, 0, -2] = true := by kernel_rfl
theorem ex16 : allowedB 3 (exL 0) [-2, 0, -1] = false := by kernel_rfl
end Go.Proofs.Ytlokeimfmbgigaa.Pl

set_option linter.unusedVariables false
namespace Go.Proofs.Ytlokeimfmbgigaa.Bk
open Go.RowKit Go.Shelf Go.Proofs.YtlokeimfmbgigaaW.PrintWords Go.Proofs.YtlokeimfmbgigaaW.PrintLast Go.Proofs.YtlokeimfmbgigaaW.PrintMore
open Go.Proofs.Ytlokeimfmbgigaa.Ref Go.Proofs.Ytlokeimfmbgigaa.Pl

theorem drawn_below {w w' : World} (h : Drawn0 w w') : Below w.heap.size w w' := h.below
section
variable {w : World} {v u : Value} {a b : List Int} {s t : List (List Int)}
theorem intsV (h : Iw w a v) (h2 : Iw w b u) (hl : a.length ≤ 1000000) (r : Bool) (hr : decide (a = b) = r) : Calls Try.prog 29 #[v, u] w fun e w' => e = .returned (.bool r) ∧ Below w.heap.size w w' := by
  obtain ⟨A, c, rfl, h1, hC⟩ := h
  obtain ⟨B, d, rfl, h3, hD⟩ := h2
  exact (dialtoneref06_Ints.calls 1000001 A c a B d b _ w hC h1 hD h3 (Ints_f a b hl 1000001 (by omega))).mono fun e w' hh => ⟨by rw [← hr]; exact hh.1, hh.2.below⟩
theorem tablesV (h : Tw w s v) (h2 : Tw w t u) (hl : s.length ≤ 1000000) (hr' : ∀ r ∈ s, r.length ≤ 1000000) (r : Bool) (hr : decide (s = t) = r) : Calls Try.prog 17 #[v, u] w fun e w' => e = .returned (.bool r) ∧ Below w.heap.size w w' := by
  obtain ⟨A, c, rfl, h1, hC⟩ := h
  obtain ⟨B, d, rfl, h3, hD⟩ := h2
  exact (dialtoneref06_Tables.calls 3000000 A c s B d t _ w hC h1 hD h3 (Tables_f s t hl hr')).mono fun e w' hh => ⟨by rw [← hr]; exact hh.1, hh.2.below⟩
theorem exampleV (m : Int) (w : World) : Calls Try.prog 37 #[.int .i64 m] w fun e w' => ∃ v, e = .returned v ∧ Bw w' 3 (exL m) v ∧ Below w.heap.size w w' :=
  (dialtonelaw06_example.calls m 3 (exL m) w rfl).mono fun e w' ⟨v1, he, hR, hb⟩ => by
    obtain ⟨A, c, rfl, hc, hC⟩ := Kd.R_reads hR
    exact ⟨_, he, ⟨A, c, rfl, hc, hC⟩, hb⟩
theorem pickV (c n : Int) (hc : I64 c) (hn : 0 < n) (w : World) : Calls Try.prog 38 #[.int .i64 c, .int .i64 n] w fun e w' => e = .returned (.int .i64 (pickP c n)) ∧ Below w.heap.size w w' :=
  (dialtoneref06_pick.calls c n _ w (pick_f c n hc hn)).mono fun e w' hh => ⟨hh.1, hh.2.below⟩
theorem pickLV (c n : Int) (hc : I64 c) (hn : 0 < n) (w : World) : Calls Try.prog 13 #[.int .i64 c, .int .i64 n] w fun e w' => e = .returned (.int .i64 (pickP c n)) ∧ Below w.heap.size w w' :=
  (dialtonelaw06_pick.calls c n _ w (pickL_f c n hc hn)).mono fun e w' hh => ⟨hh.1, hh.2.below⟩
end
/-- A list of numbers in a block of its own. -/
theorem Iw_block {w : World} {g n : Nat} {ks : List Int} (h : w.heap[g]? = some (.cells (ks.map (Value.int .i64)).toArray 3 (0, 0))) (hn : n = ks.length) (hl : ks.length ≤ 1000000) : Iw w ks (.slice (some ⟨g, 0, none⟩) n n) := by
  subst hn
  refine ⟨_, _, rfl, Nat.le_refl _, C_ints hl (fun j x hj => ?_)⟩
  rw [blk_cell h j, List.getElem?_toArray, List.getElem?_map, hj]
  rfl
/-- Three rows in a block of their own. -/
theorem Tw_block {w : World} {g g0 g1 g2 : Nat} {a b c : List Int} (h : w.heap[g]? = some (.cells #[.slice (some ⟨g0, 0, none⟩) 3 3, .slice (some ⟨g1, 0, none⟩) 3 3, .slice (some ⟨g2, 0, none⟩) 3 3] 22 (0, 0)))
    (h0 : w.heap[g0]? = some (.cells (a.map (Value.int .i64)).toArray 3 (0, 0))) (h1 : w.heap[g1]? = some (.cells (b.map (Value.int .i64)).toArray 3 (0, 0))) (h2 : w.heap[g2]? = some (.cells (c.map (Value.int .i64)).toArray 3 (0, 0)))
    (ha : 3 = a.length) (hb : 3 = b.length) (hc : 3 = c.length) : Tw w [a, b, c] (.slice (some ⟨g, 0, none⟩) 3 3) := by
  have row : ∀ {r : List Int} {gr : Nat}, w.heap[gr]? = some (.cells (r.map (Value.int .i64)).toArray 3 (0, 0)) → 3 = r.length → (Kd.slice 3 (Kd.int .i64)).K w r [.slice (some ⟨gr, 0, none⟩) 3 3] := fun hg hr => by
    obtain ⟨A, c, e, h1, h2⟩ := Iw_block hg hr (by omega)
    exact ⟨A, c, by rw [e], h1, h2⟩
  refine ⟨some ⟨g, 0, none⟩, 3, rfl, by simp, rfl, by simp, fun _ => ⟨_, rfl, fun j p hj => ?_⟩⟩
  have cell : ∀ (j : Nat) (u : Value), #[Value.slice (some ⟨g0, 0, none⟩) 3 3, .slice (some ⟨g1, 0, none⟩) 3 3, .slice (some ⟨g2, 0, none⟩) 3 3][j]? = some u → ∀ (i : Nat) (x : Value), [u][i]? = some x → w.cell? ((⟨g, 0, none⟩ : Addr).add (j * 1 + i)) = some x := fun j u hu i x hi => by
    cases i with
    | zero =>
      simp only [List.getElem?_cons_zero, Option.some.injEq] at hi
      subst hi
      rw [add_plain]
      show w.cell? ⟨g, j * 1 + 0, none⟩ = _
      rw [Nat.mul_one, Nat.add_zero, blk_cell h j]
      exact hu
    | succ i => simp at hi
  match j, hj with
  | 0, hj =>
    simp only [List.getElem?_cons_zero, Option.some.injEq] at hj
    subst hj
    exact ⟨_, rfl, row h0 ha, cell 0 _ rfl⟩
  | 1, hj =>
    simp only [List.getElem?_cons_succ, List.getElem?_cons_zero, Option.some.injEq] at hj
    subst hj
    exact ⟨_, rfl, row h1 hb, cell 1 _ rfl⟩
  | 2, hj =>
    simp only [List.getElem?_cons_succ, List.getElem?_cons_zero, Option.some.injEq] at hj
    subst hj
    exact ⟨_, rfl, row h2 hc, cell 2 _ rfl⟩
  | j + 3, hj => simp at hj
end Go.Proofs.Ytlokeimfmbgigaa.Bk

set_option linter.unusedVariables false
namespace Go.Proofs.Ytlokeimfmbgigaa.Bk
open Go.RowKit Go.Shelf Go.Proofs.YtlokeimfmbgigaaW.PrintWords Go.Proofs.YtlokeimfmbgigaaW.PrintLast Go.Proofs.YtlokeimfmbgigaaW.PrintMore
open Go.Proofs.Ytlokeimfmbgigaa.Ref Go.Proofs.Ytlokeimfmbgigaa.Pl

/-- A box that holds bounds; the world since the start. -/
def Bb (w0 w : World) (g : Nat) (A : Option Addr) (k c : Nat) (l : List S35) : Prop := w.heap[g]? = some (.cells #[.int .i64 3, .slice A k c] 30 (0, 0)) ∧ Kd.C k35 w A l.length l ∧ l.length ≤ c ∧ l.length = k ∧ w0.heap.size ≤ g
theorem Bb.below {w0 w w' : World} {g : Nat} {A : Option Addr} {k c : Nat} {l : List S35} (h : Bb w0 w g A k c l) (hb : Below w.heap.size w w') : Bb w0 w' g A k c l := ⟨blk_below h.1 hb, Kd.C_below h.2.1 hb, h.2.2⟩
theorem Bb.bw {w0 w : World} {g : Nat} {A : Option Addr} {k c : Nat} {l : List S35} (h : Bb w0 w g A k c l) : Bw w 3 l (.agg #[.int .i64 3, .slice A k c]) := ⟨A, c, by rw [h.2.2.2.1], h.2.2.1, h.2.1⟩
theorem Bb.c0 {w0 w : World} {g : Nat} {A : Option Addr} {k c : Nat} {l : List S35} (h : Bb w0 w g A k c l) : w.cell? ⟨g, 0, none⟩ = some (.int .i64 3) := (blk_cell h.1 0).trans rfl
theorem Bb.c1 {w0 w : World} {g : Nat} {A : Option Addr} {k c : Nat} {l : List S35} (h : Bb w0 w g A k c l) : w.cell? ⟨g, 1, none⟩ = some (.slice A k c) := (blk_cell h.1 1).trans rfl
theorem C_prefix {α : Type} {d : Kd α} {w : World} {A : Option Addr} {n : Nat} {xs : List α} (h : d.C w A n xs) (m : Nat) (hm : m ≤ n) : d.C w A m (xs.take m) := by
  obtain ⟨h1, h2, h3⟩ := h
  refine ⟨by rw [List.length_take]; omega, by omega, fun h0 => ?_⟩
  obtain ⟨ad, e, hc⟩ := h3 (by omega)
  refine ⟨ad, e, fun j p hj => hc j p ?_⟩
  rw [List.getElem?_take] at hj
  split at hj
  · exact hj
  · cases hj
theorem tab3 (W : World) (x0 x1 x2 y0 y1 y2 z0 z1 z2 : Int) :
    Tw ((((W.alloc (.cells #[.int .i64 x0, .int .i64 x1, .int .i64 x2] 3)).alloc (.cells #[.int .i64 y0, .int .i64 y1, .int .i64 y2] 3)).alloc (.cells #[.int .i64 z0, .int .i64 z1, .int .i64 z2] 3)).alloc (.cells #[.slice (some ⟨W.heap.size, 0, none⟩) 3 3, .slice (some ⟨W.heap.size + 1, 0, none⟩) 3 3, .slice (some ⟨W.heap.size + 1 + 1, 0, none⟩) 3 3] 22)) [[x0, x1, x2], [y0, y1, y2], [z0, z1, z2]] (.slice (some ⟨W.heap.size + 1 + 1 + 1, 0, none⟩) 3 3) ∧
    Below W.heap.size W ((((W.alloc (.cells #[.int .i64 x0, .int .i64 x1, .int .i64 x2] 3)).alloc (.cells #[.int .i64 y0, .int .i64 y1, .int .i64 y2] 3)).alloc (.cells #[.int .i64 z0, .int .i64 z1, .int .i64 z2] 3)).alloc (.cells #[.slice (some ⟨W.heap.size, 0, none⟩) 3 3, .slice (some ⟨W.heap.size + 1, 0, none⟩) 3 3, .slice (some ⟨W.heap.size + 1 + 1, 0, none⟩) 3 3] 22)) := by
  refine ⟨Tw_block (g0 := W.heap.size) (g1 := W.heap.size + 1) (g2 := W.heap.size + 1 + 1) ?_ (blk_alloc (blk_alloc (blk_alloc (blk_new W _) _) _) _) ?_ ?_ rfl rfl rfl, below_alloc (below_alloc (below_alloc (below_alloc (Below.refl _ _) _) _) _) _⟩
  · have := blk_new (((W.alloc (.cells #[.int .i64 x0, .int .i64 x1, .int .i64 x2] 3)).alloc (.cells #[.int .i64 y0, .int .i64 y1, .int .i64 y2] 3)).alloc (.cells #[.int .i64 z0, .int .i64 z1, .int .i64 z2] 3)) (.cells #[.slice (some ⟨W.heap.size, 0, none⟩) 3 3, .slice (some ⟨W.heap.size + 1, 0, none⟩) 3 3, .slice (some ⟨W.heap.size + 1 + 1, 0, none⟩) 3 3] 22)
    simp only [World.size_alloc] at this
    exact this
  · have := blk_alloc (blk_alloc (blk_new (W.alloc (.cells #[.int .i64 x0, .int .i64 x1, .int .i64 x2] 3)) (.cells #[.int .i64 y0, .int .i64 y1, .int .i64 y2] 3)) (.cells #[.int .i64 z0, .int .i64 z1, .int .i64 z2] 3)) (.cells #[.slice (some ⟨W.heap.size, 0, none⟩) 3 3, .slice (some ⟨W.heap.size + 1, 0, none⟩) 3 3, .slice (some ⟨W.heap.size + 1 + 1, 0, none⟩) 3 3] 22)
    simp only [World.size_alloc] at this
    exact this
  · have := blk_alloc (blk_new ((W.alloc (.cells #[.int .i64 x0, .int .i64 x1, .int .i64 x2] 3)).alloc (.cells #[.int .i64 y0, .int .i64 y1, .int .i64 y2] 3)) (.cells #[.int .i64 z0, .int .i64 z1, .int .i64 z2] 3)) (.cells #[.slice (some ⟨W.heap.size, 0, none⟩) 3 3, .slice (some ⟨W.heap.size + 1, 0, none⟩) 3 3, .slice (some ⟨W.heap.size + 1 + 1, 0, none⟩) 3 3] 22)
    simp only [World.size_alloc] at this
    exact this
theorem list3 (W : World) (x0 x1 x2 : Int) : Iw (W.alloc (.cells #[.int .i64 x0, .int .i64 x1, .int .i64 x2] 3)) [x0, x1, x2] (.slice (some ⟨W.heap.size, 0, none⟩) 3 3) ∧ Below W.heap.size W (W.alloc (.cells #[.int .i64 x0, .int .i64 x1, .int .i64 x2] 3)) :=
  ⟨Iw_block (blk_new W _) rfl (by simp), below_alloc (Below.refl _ _) _⟩
theorem list2 (W : World) (x0 x1 : Int) : Iw (W.alloc (.cells #[.int .i64 x0, .int .i64 x1] 3)) [x0, x1] (.slice (some ⟨W.heap.size, 0, none⟩) 2 2) ∧ Below W.heap.size W (W.alloc (.cells #[.int .i64 x0, .int .i64 x1] 3)) :=
  ⟨Iw_block (blk_new W _) rfl (by simp), below_alloc (Below.refl _ _) _⟩
set_option maxHeartbeats 16000000 in
set_option maxRecDepth 100000 in
theorem sane_calls (w : World) : Calls Try.prog 10 #[] w fun e w' => e = .returned (.bool true) ∧ Below w.heap.size w w' := by
  go_enter Try.func10, Try.ntmps10
  go_wp2_with fail
  refine (exampleV 0 _).mono ?_
  rintro e w1 ⟨v1, rfl, ⟨A, c, hv, hc, hC⟩, hb⟩
  obtain rfl : v1 = .agg #[.int .i64 3, .slice A 3 c] := hv
  have hY := (Below.refl _ w1).alloc (Nat.le_refl _) (.cells #[.int .i64 3, .slice A 3 c] 30)
  have H0 := Aside0.mk (show Bb w (w1.alloc (.cells #[.int .i64 3, .slice A 3 c] 30)) w1.heap.size A 3 c (exL 0) from ⟨blk_new w1 _, Kd.C_below hC hY, hc, rfl, hb.size⟩)
  have HW := Aside0.mk (below_step hb hY)
  have hc3 : (3 : Int) ≤ (c : Int) := by have : 3 ≤ c := hc; omega
  clear hY hC hb hc
  have k0 := H0.out.c0
  have k1 := H0.out.c1
  go_wp2_with fail
  refine (closeV H0.out.bw _ _ ex1 ex1e).mono ?_
  rintro e w2 ⟨t2, rfl, r2, h2⟩
  clear k0 k1
  replace H0 := Aside0.mk (H0.out.below h2)
  replace HW := Aside0.mk (below_step HW.out h2)
  have HD := Aside0.mk r2
  clear h2 r2
  have k0 := H0.out.c0
  have k1 := H0.out.c1
  go_wp2_with fail
  refine (solveV H0.out.bw _ _ ex2 ex1e).mono ?_
  rintro e w3 ⟨t3, rfl, r3, h3⟩
  clear k0 k1
  replace H0 := Aside0.mk (H0.out.below h3)
  replace HD := Aside0.mk (HD.out.below h3)
  replace HW := Aside0.mk (below_step HW.out h3)
  have HS := Aside0.mk r3
  clear h3 r3
  have k0 := H0.out.c0
  have k1 := H0.out.c1
  go_wp2_with fail
  refine (impliedV H0.out.bw ⟨0, 2, 3⟩ _ _ ex3 ex3b).mono ?_
  rintro e w4 ⟨t4, rfl, r4, h4⟩
  clear k0 k1
  replace H0 := Aside0.mk (H0.out.below h4)
  replace HD := Aside0.mk (HD.out.below h4)
  replace HS := Aside0.mk (HS.out.below h4)
  replace HW := Aside0.mk (below_step HW.out h4)
  have HL := Aside0.mk r4
  clear h4 r4
  have k0 := H0.out.c0
  have k1 := H0.out.c1
  go_wp2_with fail
  refine (impliedV H0.out.bw ⟨0, 2, 2⟩ _ _ ex4 ex4b).mono ?_
  rintro e w5 ⟨t5, rfl, r5, h5⟩
  clear k0 k1
  replace H0 := Aside0.mk (H0.out.below h5)
  replace HD := Aside0.mk (HD.out.below h5)
  replace HS := Aside0.mk (HS.out.below h5)
  replace HL := Aside0.mk (HL.out.below h5)
  replace HW := Aside0.mk (below_step HW.out h5)
  clear h5
  go_wp2_with fail
  refine (exampleV (-4) _).mono ?_
  rintro e w6 ⟨v6, rfl, r6, h6⟩
  replace H0 := Aside0.mk (H0.out.below h6)
  replace HD := Aside0.mk (HD.out.below h6)
  replace HS := Aside0.mk (HS.out.below h6)
  replace HL := Aside0.mk (HL.out.below h6)
  replace HW := Aside0.mk (below_step HW.out h6)
  have HX := Aside0.mk r6
  clear h6 r6
  go_wp2_with fail
  refine (cycleV HX.out _ _ ex5 ex5b).mono ?_
  rintro e w7 ⟨t7, rfl, r7, h7⟩
  replace H0 := Aside0.mk (H0.out.below h7)
  replace HD := Aside0.mk (HD.out.below h7)
  replace HS := Aside0.mk (HS.out.below h7)
  replace HL := Aside0.mk (HL.out.below h7)
  replace HX := Aside0.mk (HX.out.below h7)
  replace HW := Aside0.mk (below_step HW.out h7)
  have HC := Aside0.mk r7
  clear h7 r7
  clear HX
  have k0 := H0.out.c0
  have k1 := H0.out.c1
  go_wp2_with fail
  refine (cycleV H0.out.bw _ _ ex6 ex6b).mono ?_
  rintro e w8 ⟨t8, rfl, r8, h8⟩
  clear k0 k1
  replace H0 := Aside0.mk (H0.out.below h8)
  replace HD := Aside0.mk (HD.out.below h8)
  replace HS := Aside0.mk (HS.out.below h8)
  replace HL := Aside0.mk (HL.out.below h8)
  replace HC := Aside0.mk (HC.out.below h8)
  replace HW := Aside0.mk (below_step HW.out h8)
  clear h8
  go_wp2_with fail
  refine (exampleV (-4) _).mono ?_
  rintro e w9 ⟨v9, rfl, r9, h9⟩
  replace H0 := Aside0.mk (H0.out.below h9)
  replace HD := Aside0.mk (HD.out.below h9)
  replace HS := Aside0.mk (HS.out.below h9)
  replace HL := Aside0.mk (HL.out.below h9)
  replace HC := Aside0.mk (HC.out.below h9)
  replace HW := Aside0.mk (below_step HW.out h9)
  have HX := Aside0.mk r9
  clear h9 r9
  go_wp2_with fail
  refine (solveV HX.out _ _ ex7 ex7e).mono ?_
  rintro e w10 ⟨t10, rfl, r10, h10⟩
  replace H0 := Aside0.mk (H0.out.below h10)
  replace HD := Aside0.mk (HD.out.below h10)
  replace HS := Aside0.mk (HS.out.below h10)
  replace HL := Aside0.mk (HL.out.below h10)
  replace HC := Aside0.mk (HC.out.below h10)
  replace HX := Aside0.mk (HX.out.below h10)
  replace HW := Aside0.mk (below_step HW.out h10)
  clear h10
  clear HX
  have k0 := H0.out.c0
  have k1 := H0.out.c1
  go_upto_region 10 with (fail)
  clear k0 k1
  have hY := (Below.refl _ w10).alloc (Nat.le_refl _) (.cells #[.int .i64 3, .slice A 3 c] 30)
  have HN := Aside0.mk (show Bb w10 (w10.alloc (.cells #[.int .i64 3, .slice A 3 c] 30)) w10.heap.size A 3 c (exL 0) from ⟨blk_new w10 _, (H0.out.below hY).2.1, H0.out.2.2.1, rfl, Nat.le_refl _⟩)
  have HA := Aside0.mk (H0.out.below hY)
  clear hY
  have k1 := HA.out.c1
  have k2 := HN.out.c0
  have k3 := HN.out.c1
  go_wp2_with fail
  clear k1 k2 k3 HN HA
  have hY := (Below.refl _ w10).alloc (Nat.le_refl _) (.cells #[.int .i64 3, .slice A 2 c] 30)
  replace H0 := Aside0.mk (H0.out.below hY)
  replace HD := Aside0.mk (HD.out.below hY)
  replace HS := Aside0.mk (HS.out.below hY)
  replace HL := Aside0.mk (HL.out.below hY)
  replace HC := Aside0.mk (HC.out.below hY)
  replace HW := Aside0.mk (below_step HW.out hY)
  have hB : Bw (w10.alloc (.cells #[.int .i64 3, .slice A 2 c] 30)) 3 exS (.agg #[.int .i64 3, .slice A 2 c]) := ⟨A, c, rfl, by have := hc3; show 2 ≤ c; omega, C_prefix H0.out.2.1 2 (by decide)⟩
  clear hY
  refine (closeV hB _ _ ex8 ex8e).mono ?_
  rintro e w11 ⟨t11, rfl, r11, h11⟩
  replace H0 := Aside0.mk (H0.out.below h11)
  replace HD := Aside0.mk (HD.out.below h11)
  replace HS := Aside0.mk (HS.out.below h11)
  replace HL := Aside0.mk (HL.out.below h11)
  replace HC := Aside0.mk (HC.out.below h11)
  replace HW := Aside0.mk (below_step HW.out h11)
  have HZ := Aside0.mk r11
  clear h11 r11
  clear hB
  go_wp2_with fail
  obtain ⟨hT, hY⟩ := tab3 w11 (0) (5) (3) (-2) (0) (-2) (0) (5) (0)
  replace H0 := Aside0.mk (H0.out.below hY)
  replace HD := Aside0.mk (HD.out.below hY)
  replace HS := Aside0.mk (HS.out.below hY)
  replace HL := Aside0.mk (HL.out.below hY)
  replace HC := Aside0.mk (HC.out.below hY)
  replace HZ := Aside0.mk (HZ.out.below hY)
  replace HW := Aside0.mk (below_step HW.out hY)
  refine (tablesV HD.out hT (by decide) (by decide) true (by decide)).mono ?_
  rintro e w12 ⟨rfl, h12⟩
  clear hT hY
  replace H0 := Aside0.mk (H0.out.below h12)
  replace HD := Aside0.mk (HD.out.below h12)
  replace HS := Aside0.mk (HS.out.below h12)
  replace HL := Aside0.mk (HL.out.below h12)
  replace HC := Aside0.mk (HC.out.below h12)
  replace HZ := Aside0.mk (HZ.out.below h12)
  replace HW := Aside0.mk (below_step HW.out h12)
  clear h12
  go_wp2_with fail
  obtain ⟨hT, hY⟩ := tab3 w12 (0) (5) (3) (1152921504606846976) (0) (-2) (1152921504606846976) (1152921504606846976) (0)
  replace H0 := Aside0.mk (H0.out.below hY)
  replace HD := Aside0.mk (HD.out.below hY)
  replace HS := Aside0.mk (HS.out.below hY)
  replace HL := Aside0.mk (HL.out.below hY)
  replace HC := Aside0.mk (HC.out.below hY)
  replace HZ := Aside0.mk (HZ.out.below hY)
  replace HW := Aside0.mk (below_step HW.out hY)
  refine (tablesV HZ.out hT (by decide) (by decide) true (by decide)).mono ?_
  rintro e w13 ⟨rfl, h13⟩
  clear hT hY
  replace H0 := Aside0.mk (H0.out.below h13)
  replace HD := Aside0.mk (HD.out.below h13)
  replace HS := Aside0.mk (HS.out.below h13)
  replace HL := Aside0.mk (HL.out.below h13)
  replace HC := Aside0.mk (HC.out.below h13)
  replace HZ := Aside0.mk (HZ.out.below h13)
  replace HW := Aside0.mk (below_step HW.out h13)
  clear h13
  go_wp2_with fail
  obtain ⟨hT, hY⟩ := list3 w13 (-2) (0) (-2)
  replace H0 := Aside0.mk (H0.out.below hY)
  replace HD := Aside0.mk (HD.out.below hY)
  replace HS := Aside0.mk (HS.out.below hY)
  replace HL := Aside0.mk (HL.out.below hY)
  replace HC := Aside0.mk (HC.out.below hY)
  replace HZ := Aside0.mk (HZ.out.below hY)
  replace HW := Aside0.mk (below_step HW.out hY)
  refine (intsV HS.out hT (by decide) true (by decide)).mono ?_
  rintro e w14 ⟨rfl, h14⟩
  clear hT hY
  replace H0 := Aside0.mk (H0.out.below h14)
  replace HD := Aside0.mk (HD.out.below h14)
  replace HS := Aside0.mk (HS.out.below h14)
  replace HL := Aside0.mk (HL.out.below h14)
  replace HC := Aside0.mk (HC.out.below h14)
  replace HZ := Aside0.mk (HZ.out.below h14)
  replace HW := Aside0.mk (below_step HW.out h14)
  clear h14
  clear HD HZ HS
  go_wp2_with fail
  obtain ⟨hT, hY⟩ := list2 w14 (0) (1)
  replace H0 := Aside0.mk (H0.out.below hY)
  replace HL := Aside0.mk (HL.out.below hY)
  replace HC := Aside0.mk (HC.out.below hY)
  replace HW := Aside0.mk (below_step HW.out hY)
  refine (intsV HL.out hT (by decide) true (by decide)).mono ?_
  rintro e w15 ⟨rfl, h15⟩
  clear hT hY
  replace H0 := Aside0.mk (H0.out.below h15)
  replace HL := Aside0.mk (HL.out.below h15)
  replace HC := Aside0.mk (HC.out.below h15)
  replace HW := Aside0.mk (below_step HW.out h15)
  clear h15
  go_wp2_with fail
  obtain ⟨hT, hY⟩ := list3 w15 (0) (1) (2)
  replace H0 := Aside0.mk (H0.out.below hY)
  replace HL := Aside0.mk (HL.out.below hY)
  replace HC := Aside0.mk (HC.out.below hY)
  replace HW := Aside0.mk (below_step HW.out hY)
  refine (intsV HC.out hT (by decide) true (by decide)).mono ?_
  rintro e w16 ⟨rfl, h16⟩
  clear hT hY
  replace H0 := Aside0.mk (H0.out.below h16)
  replace HL := Aside0.mk (HL.out.below h16)
  replace HC := Aside0.mk (HC.out.below h16)
  replace HW := Aside0.mk (below_step HW.out h16)
  clear h16
  clear HL HC
  go_wp2_with fail
  refine (exampleV (-4) _).mono ?_
  rintro e w17 ⟨v17, rfl, r17, h17⟩
  replace H0 := Aside0.mk (H0.out.below h17)
  replace HW := Aside0.mk (below_step HW.out h17)
  have HX := Aside0.mk r17
  clear h17 r17
  go_wp2_with fail
  obtain ⟨hT, hY⟩ := list3 w17 (1) (2) (0)
  replace H0 := Aside0.mk (H0.out.below hY)
  replace HX := Aside0.mk (HX.out.below hY)
  replace HW := Aside0.mk (below_step HW.out hY)
  refine (checkCycleV HX.out hT (by decide) true ex9).mono ?_
  rintro e w18 ⟨rfl, h18⟩
  clear hT hY
  replace H0 := Aside0.mk (H0.out.below h18)
  replace HX := Aside0.mk (HX.out.below h18)
  replace HW := Aside0.mk (below_step HW.out h18)
  clear h18
  clear HX
  have k0 := H0.out.c0
  have k1 := H0.out.c1
  go_wp2_with fail
  clear k0 k1
  obtain ⟨hT, hY⟩ := list3 w18 (0) (1) (2)
  replace H0 := Aside0.mk (H0.out.below hY)
  replace HW := Aside0.mk (below_step HW.out hY)
  refine (checkCycleV H0.out.bw hT (by decide) false ex10).mono ?_
  rintro e w19 ⟨rfl, h19⟩
  clear hT hY
  replace H0 := Aside0.mk (H0.out.below h19)
  replace HW := Aside0.mk (below_step HW.out h19)
  clear h19
  have k0 := H0.out.c0
  have k1 := H0.out.c1
  go_wp2_with fail
  clear k0 k1
  obtain ⟨hT, hY⟩ := list2 w19 (0) (1)
  replace H0 := Aside0.mk (H0.out.below hY)
  replace HW := Aside0.mk (below_step HW.out hY)
  refine (checkChainV H0.out.bw ⟨0, 2, 3⟩ hT (by decide) true ex11).mono ?_
  rintro e w20 ⟨rfl, h20⟩
  clear hT hY
  replace H0 := Aside0.mk (H0.out.below h20)
  replace HW := Aside0.mk (below_step HW.out h20)
  clear h20
  have k0 := H0.out.c0
  have k1 := H0.out.c1
  go_wp2_with fail
  clear k0 k1
  obtain ⟨hT, hY⟩ := list2 w20 (0) (1)
  replace H0 := Aside0.mk (H0.out.below hY)
  replace HW := Aside0.mk (below_step HW.out hY)
  refine (checkChainV H0.out.bw ⟨0, 2, 2⟩ hT (by decide) false ex12).mono ?_
  rintro e w21 ⟨rfl, h21⟩
  clear hT hY
  replace H0 := Aside0.mk (H0.out.below h21)
  replace HW := Aside0.mk (below_step HW.out h21)
  clear h21
  have k0 := H0.out.c0
  have k1 := H0.out.c1
  go_wp2_with fail
  clear k0 k1
  refine (validV H0.out.bw true ex13).mono ?_
  rintro e w22 ⟨rfl, h22⟩
  replace H0 := Aside0.mk (H0.out.below h22)
  replace HW := Aside0.mk (below_step HW.out h22)
  clear h22
  go_wp2_with fail
  refine (validV (l := []) (n := 17) ⟨none, 0, rfl, Nat.le_refl _, Kd.C_nil _ _⟩ false ex14).mono ?_
  rintro e w23 ⟨rfl, h23⟩
  replace H0 := Aside0.mk (H0.out.below h23)
  replace HW := Aside0.mk (below_step HW.out h23)
  clear h23
  have k0 := H0.out.c0
  have k1 := H0.out.c1
  go_wp2_with fail
  clear k0 k1
  obtain ⟨hT, hY⟩ := list3 w23 (-2) (0) (-2)
  replace H0 := Aside0.mk (H0.out.below hY)
  replace HW := Aside0.mk (below_step HW.out hY)
  refine (allowedV H0.out.bw hT true ex15).mono ?_
  rintro e w24 ⟨rfl, h24⟩
  clear hT hY
  replace H0 := Aside0.mk (H0.out.below h24)
  replace HW := Aside0.mk (below_step HW.out h24)
  clear h24
  have k0 := H0.out.c0
  have k1 := H0.out.c1
  go_wp2_with fail
  clear k0 k1
  obtain ⟨hT, hY⟩ := list3 w24 (-2) (0) (-1)
  replace H0 := Aside0.mk (H0.out.below hY)
  replace HW := Aside0.mk (below_step HW.out hY)
  refine (allowedV H0.out.bw hT false ex16).mono ?_
  rintro e w25 ⟨rfl, h25⟩
  clear hT hY
  replace H0 := Aside0.mk (H0.out.below h25)
  replace HW := Aside0.mk (below_step HW.out h25)
  clear h25
  go_wp2_with fail
  go_ret
  exact ⟨rfl, HW.out⟩
end Go.Proofs.Ytlokeimfmbgigaa.Bk

set_option linter.unusedVariables false
namespace Go.Proofs.Ytlokeimfmbgigaa.Pl
open Go.Proofs.Ytlokeimfmbgigaa.Ref
/-- The integers that determine bounds. -/
structure Nums where
  n : Int
  hs : List Int
  bs : List (Int × Int × Int)
  miss : Int
def hidN (n : Int) : Nat := (1 + pickP n 8).toNat
def hidV (hs : List Int) (i : Nat) : Int := if i < hs.length then pickP (hs.getD i 0) 200 - 100 else 0
def hidL (n : Int) (hs : List Int) : List Int := (List.range (hidN n)).map (hidV hs)
theorem hidN_range (n : Int) : 1 ≤ hidN n ∧ hidN n ≤ 8 := by
  have := pickP_range n 8 (by decide)
  unfold hidN
  omega
theorem hidV_range (hs : List Int) (i : Nat) : -100 ≤ hidV hs i ∧ hidV hs i ≤ 99 := by
  unfold hidV
  split
  · have := pickP_range (hs.getD i 0) 200 (by decide); omega
  · omega
theorem hidL_len (n : Int) (hs : List Int) : (hidL n hs).length = hidN n := by simp [hidL]
def missB (m : Int) : Bool := pickP m 3 == 2
def intsR (l : List Int) : List Go.Value := l.map (Go.Value.int .i64)
theorem intsR_len (l : List Int) : (intsR l).length = l.length := by simp [intsR]
end Go.Proofs.Ytlokeimfmbgigaa.Pl
namespace Go.Proofs.Ytlokeimfmbgigaa.Bk
open Go.RowKit Go.Shelf Go.Proofs.YtlokeimfmbgigaaW.PrintWords Go.Proofs.YtlokeimfmbgigaaW.PrintLast Go.Proofs.YtlokeimfmbgigaaW.PrintMore
open Go.Proofs.Ytlokeimfmbgigaa.Ref Go.Proofs.Ytlokeimfmbgigaa.Pl

theorem pick0 (c n : Int) (hc : I64 c) (hn : 0 < n) (w : World) : Calls Try.prog 38 #[.int .i64 c, .int .i64 n] w fun e w' => e = .returned (.int .i64 (pickP c n)) ∧ w' = w := by
  have c5b0 : (n == 0) = false := beq_eq_false_iff_ne.mpr (by omega)
  have c5b1 : (n != 0) = true := bne_iff_ne.mpr (by omega)
  unfold I64 at hc
  by_cases h : c < 0
  · have hb : decide (c < 0) = true := decide_eq_true h
    have e1 : IntKind.i64.wrap (c + 1) = c + 1 := IntWalk.i64_in _ (by omega)
    have e2 : IntKind.i64.wrap (-(c + 1)) = -(c + 1) := IntWalk.i64_in _ (by omega)
    have hp : pickP c n = Int.tmod (-(c + 1)) n := by unfold pickP; rw [if_pos h]
    have HP := Aside0.mk hp
    clear h hp hc
    go_enter Try.func38, Try.ntmps38
    go_wp2_with fail
    go_ret
    rw [HP.out]
    exact ⟨by first | rfl | (simp; done), rfl⟩
  · have hb : decide (c < 0) = false := decide_eq_false h
    have hp : pickP c n = Int.tmod c n := by unfold pickP; rw [if_neg h]
    have HP := Aside0.mk hp
    clear h hp hc
    go_enter Try.func38, Try.ntmps38
    go_wp2_with fail
    go_ret
    rw [HP.out]
    exact ⟨rfl, rfl⟩
/-- A row of triples of whole numbers that is read. -/
def Trip (w : World) (A : Option Addr) (xs : List (Int × Int × Int)) : Prop :=
  (∀ x ∈ xs, I64 x.1 ∧ I64 x.2.1 ∧ I64 x.2.2) ∧ (0 < xs.length → ∃ ad, A = some ad ∧ ∀ i, i < xs.length → w.cell? (ad.add (i * 3)) = some (.int .i64 (xs.getD i (0, 0, 0)).1) ∧ w.cell? ⟨(ad.add (i * 3)).block, (ad.add (i * 3)).off + 1, none⟩ = some (.int .i64 (xs.getD i (0, 0, 0)).2.1) ∧ w.cell? ⟨(ad.add (i * 3)).block, (ad.add (i * 3)).off + 2, none⟩ = some (.int .i64 (xs.getD i (0, 0, 0)).2.2))
theorem Trip.below {w w' : World} {A : Option Addr} {xs : List (Int × Int × Int)} (h : Trip w A xs) (hb : Below w.heap.size w w') : Trip w' A xs := by
  refine ⟨h.1, fun h0 => ?_⟩
  obtain ⟨ad, e, hc⟩ := h.2 h0
  refine ⟨ad, e, fun i hi => ?_⟩
  obtain ⟨c0, c1, c2⟩ := hc i hi
  exact ⟨pw_cell_below hb c0, pw_cell_below hb c1, pw_cell_below hb c2⟩
/-- A value that is Numbers. -/
def Nw (w : World) (x : Nums) (v : Value) : Prop := ∃ A c B d, v = .agg #[.int .i64 x.n, .slice A x.hs.length c, .slice B x.bs.length d, .int .i64 x.miss] ∧ I64 x.n ∧ I64 x.miss ∧ (∀ h ∈ x.hs, I64 h) ∧ Kd.C (Kd.int .i64) w A x.hs.length x.hs ∧ Trip w B x.bs ∧ x.hs.length ≤ 9223372036854775807 ∧ x.bs.length ≤ 9223372036854775807
theorem Nw.below {w w' : World} {x : Nums} {v : Value} (h : Nw w x v) (hb : Below w.heap.size w w') : Nw w' x v := by
  obtain ⟨A, c, B, d, rfl, h1, h2, h3, h4, h5, h6, h7⟩ := h
  exact ⟨A, c, B, d, rfl, h1, h2, h3, Kd.C_below h4 hb, h5.below hb, h6, h7⟩
theorem ints_at {w : World} {A : Option Addr} {n : Nat} {ks : List Int} (h : Kd.C (Kd.int .i64) w A n ks) {j : Nat} (hj : j < ks.length) : ∃ ad, A = some ad ∧ w.cell? (ad.add j) = some (.int .i64 (ks.getD j 0)) := by
  obtain ⟨h1, h2, h3⟩ := h
  obtain ⟨ad, e, hc⟩ := h3 (by omega)
  obtain ⟨vs, hl, hv, hcell⟩ := hc j (ks.getD j 0) (by rw [List.getD_eq_getElem?_getD, List.getElem?_eq_getElem hj]; rfl)
  subst hv
  have := hcell 0 _ rfl
  rw [Nat.add_zero, show j * (Kd.int IntKind.i64).sz = j from Nat.mul_one j] at this
  exact ⟨ad, e, this⟩
theorem misses_calls (x : Nums) (v : Value) (w : World) (h : Nw w x v) : Calls Try.prog 36 #[v] w fun e w' => e = .returned (.bool (missB x.miss)) ∧ Below w.heap.size w w' := by
  obtain ⟨A, c, B, d, rfl, h1, h2, h3, h4, h5, h6, h7⟩ := h
  have H2 := Aside0.mk h2
  clear h1 h2 h3 h4 h5 h6 h7
  go_enter Try.func36, Try.ntmps36
  go_wp2_with fail
  refine (pick0 x.miss 3 H2.out (by decide) _).mono ?_
  rintro e w1 ⟨rfl, rfl⟩
  go_wp2_with fail
  go_ret
  exact ⟨rfl, below_alloc (Below.refl _ _) _⟩
set_option maxHeartbeats 4000000 in
theorem hidden_calls (x : Nums) (v : Value) (w : World) (h : Nw w x v) : Calls Try.prog 12 #[v] w fun e w' => ∃ u, e = .returned u ∧ w'.ownsRow w.heap.size 3 1 u (hidL x.n x.hs).length (intsR (hidL x.n x.hs)) ∧ Below w.heap.size w w' := by
  obtain ⟨A, c, B, d, rfl, h1, h2, h3, h4, h5, h6, h7⟩ := h
  have K := Aside0.mk (And.intro h1 (And.intro h3 (And.intro h4 h6)))
  have hB := below_alloc (Below.refl w.heap.size w) (.cells #[.int .i64 x.n, .slice A x.hs.length c, .slice B x.bs.length d, .int .i64 x.miss] 25)
  have HB := Aside0.mk hB
  have HX := Aside0.mk (blk_new w (.cells #[.int .i64 x.n, .slice A x.hs.length c, .slice B x.bs.length d, .int .i64 x.miss] 25))
  have HR := Aside0.mk (hidN_range x.n)
  clear h1 h2 h3 h4 h5 h6 h7 hB
  go_enter Try.func12, Try.ntmps12
  go_wp2_with fail
  go_loopg [3, 4] (hidN x.n + 1) (fun kq v3 v4 wr => ∃ (i : Nat), v4 = .int .i64 (i : Int) ∧ Aside0 (i + kq = hidN x.n + 1 ∧ i ≤ hidN x.n) ∧ Aside0 (wr.ownsRow (w.heap.size + 1) 3 1 v3 i (intsR ((hidL x.n x.hs).take i))) ∧ Aside0 (wr.heap[w.heap.size]? = some (.cells #[.int .i64 x.n, .slice A x.hs.length c, .slice B x.bs.length d, .int .i64 x.miss] 25 (0, 0))) ∧ Aside0 (Below w.heap.size w wr))
  case atStart => exact ⟨0, rfl, ⟨by omega, by omega⟩, ⟨⟨rfl, .inl ⟨rfl, rfl⟩⟩⟩, HX, HB⟩
  case round =>
    clear HB HX
    obtain ⟨i, rfl, HK, HO, HX, HB⟩ := hrel
    have k0 : wr.cell? ⟨w.heap.size, 0, none⟩ = some (.int .i64 x.n) := (blk_cell HX.out 0).trans rfl
    go_wp2_with fail
    refine (pick0 x.n 8 K.out.1 (by decide) _).mono ?_
    rintro e wr ⟨rfl, rfl⟩
    have hw : IntKind.i64.wrap (1 + pickP x.n 8) = ((hidN x.n : Nat) : Int) := by
      have := pickP_range x.n 8 (by decide)
      unfold hidN
      rw [IntWalk.i64_in _ (by omega)]
      omega
    by_cases hi : i < hidN x.n
    · have hq := eq_true hi
      have hi9 : i + 1 ≤ 9 := by have := HR.out; omega
      have HI := Aside0.mk hi
      have hsu : intsR ((hidL x.n x.hs).take (i + 1)) = intsR ((hidL x.n x.hs).take i) ++ [.int .i64 (hidV x.hs i)] := by
        rw [List.take_succ_eq_append_getElem (by rw [hidL_len]; exact hi)]
        simp [intsR, hidL]
      have k1 : wr.cell? ⟨w.heap.size, 1, none⟩ = some (.slice A x.hs.length c) := (blk_cell HX.out 1).trans rfl
      by_cases hh : i < x.hs.length
      · have hq2 := eq_true hh
        have q1 := eq_true (show (i : Int) < (x.hs.length : Int) by omega)
        have q2 := eq_true (show (0 : Int) ≤ (i : Int) by omega)
        obtain ⟨ad, rfl, hce⟩ := ints_at K.out.2.2.1 hh
        have k2 : wr.cell? (ad.add i) = some (.int .i64 (x.hs.getD i 0)) := pw_cell_below HB.out hce
        have hv : hidV x.hs i = pickP (x.hs.getD i 0) 200 - 100 := by unfold hidV; rw [if_pos hh]
        have hsub : IntKind.i64.wrap (pickP (x.hs.getD i 0) 200 - 100) = pickP (x.hs.getD i 0) 200 - 100 := IntWalk.i64_in _ (by have := pickP_range (x.hs.getD i 0) 200 (by decide); omega)
        rw [hv] at hsu
        have HT := Aside0.mk hsu
        have HE := Aside0.mk (show I64 (x.hs.getD i 0) from K.out.2.1 _ (by rw [List.getD_eq_getElem?_getD, List.getElem?_eq_getElem hh]; exact List.getElem_mem hh))
        generalize x.hs.getD i 0 = y at k2 hsub HT HE
        clear hi hh hsu hce hv
        go_wp2_with fail
        refine (pick0 _ 200 HE.out (by decide) _).mono ?_
        rintro e wr ⟨rfl, rfl⟩
        obtain ⟨i3, hi3, hy0, hy1, hy2⟩ := info_parts info3
        have HY := Aside0.mk (And.intro hi3 (And.intro hy0 (And.intro hy1 hy2)))
        clear hi3 hy0 hy1 hy2
        go_wp2_with (at_builtin; refine wpList_append_lies _ rfl _ _ 22 rfl (w.heap.size + 1) 3 i3 (.int .i64 0) 1 8 Try.underlying22 HY.out.1 HY.out.2.1 HY.out.2.2.1 HY.out.2.2.2 rfl (by decide) u3 i (intsR ((hidL x.n x.hs).take i)) rfl (HO.out.alloc _) ⟨wr.heap.size, 0, none⟩ 1 1 [.int .i64 (pickP (y) 200 - 100)] rfl rfl (World.news_of_block (cs := #[.int .i64 (pickP (y) 200 - 100)]) (t := 3) (fr := (0, 0)) (heap_alloc_new wr _)) (by simp [Value.oneCell']) (by omega) (by unfold maxLen; have := HI.out; have := HR.out; omega) (by have := HI.out; have := HR.out; omega) (by have := HB.out.size; have := World.block_lt_of_cell? wr _ k0; simp; omega) (wr.heap.size + 1) (by simp) ?_; intro gg cap w3 hown3 hgrow hat hlt; have HOWN3 := Aside0.mk hown3; have HX3 := Aside0.mk (blk_grown (blk_alloc HX.out _) hgrow (fun e => by have := own_base HO.out _ e.symm; omega)); have HW3 := Aside0.mk (below_grown2 HB.out HO.out (by omega) hgrow); clear hown3 hgrow hat hlt)
        go_roundg (hidN x.n - i)
        case measure => have := HK.out; have := HI.out; omega
        case rel =>
          refine ⟨i + 1, by go_num, ⟨by have := HK.out; have := HI.out; omega⟩, ⟨?_⟩, HX3, HW3⟩
          rw [HT.out]
          exact HOWN3.out
      · have hq2 := eq_false hh
        have hv : hidV x.hs i = 0 := by unfold hidV; rw [if_neg hh]
        rw [hv] at hsu
        have HT := Aside0.mk hsu
        clear hi hh hsu hv
        obtain ⟨i3, hi3, hy0, hy1, hy2⟩ := info_parts info3
        have HY := Aside0.mk (And.intro hi3 (And.intro hy0 (And.intro hy1 hy2)))
        clear hi3 hy0 hy1 hy2
        go_wp2_with (at_builtin; refine wpList_append_lies _ rfl _ _ 22 rfl (w.heap.size + 1) 3 i3 (.int .i64 0) 1 8 Try.underlying22 HY.out.1 HY.out.2.1 HY.out.2.2.1 HY.out.2.2.2 rfl (by decide) u3 i (intsR ((hidL x.n x.hs).take i)) rfl (HO.out.alloc _) ⟨wr.heap.size, 0, none⟩ 1 1 [.int .i64 0] rfl rfl (World.news_of_block (cs := #[.int .i64 0]) (t := 3) (fr := (0, 0)) (heap_alloc_new wr _)) (by simp [Value.oneCell']) (by omega) (by unfold maxLen; have := HI.out; have := HR.out; omega) (by have := HI.out; have := HR.out; omega) (by have := HB.out.size; have := World.block_lt_of_cell? wr _ k0; simp; omega) (wr.heap.size + 1) (by simp) ?_; intro gg cap w3 hown3 hgrow hat hlt; have HOWN3 := Aside0.mk hown3; have HX3 := Aside0.mk (blk_grown (blk_alloc HX.out _) hgrow (fun e => by have := own_base HO.out _ e.symm; omega)); have HW3 := Aside0.mk (below_grown2 HB.out HO.out (by omega) hgrow); clear hown3 hgrow hat hlt)
        go_roundg (hidN x.n - i)
        case measure => have := HK.out; have := HI.out; omega
        case rel =>
          refine ⟨i + 1, by go_num, ⟨by have := HK.out; have := HI.out; omega⟩, ⟨?_⟩, HX3, HW3⟩
          rw [HT.out]
          exact HOWN3.out
    · have hq := eq_false hi
      have HT := Aside0.mk (show (hidL x.n x.hs).take i = hidL x.n x.hs from List.take_of_length_le (by rw [hidL_len]; omega))
      have HIN := Aside0.mk (show i = hidN x.n from by have := HK.out; omega)
      clear hi
      go_wp2_with fail
      go_ret
      refine ⟨_, rfl, ?_, HB.out⟩
      rw [hidL_len, ← HIN.out]
      have := HO.out
      rw [HT.out] at this
      exact own_weaken this (by omega)
end Go.Proofs.Ytlokeimfmbgigaa.Bk
