/- Plain: chains of bounds and tables of sums; no condition. -/
import Derived.IntWalk
set_option linter.unusedVariables false
set_option linter.unusedSimpArgs false
set_option linter.unusedVariables false
set_option linter.unusedSimpArgs false
namespace Go.Proofs.Ytlokeimfmbgigaa.Pl

/-- A bound: from, to, most. -/
abbrev Bd := Nat × Nat × Int
/-- A chain of at least one bound from i to k, with the sum s, whose variables between are below M. -/
inductive Via (E : List Bd) (M : Nat) : Nat → Nat → Int → Prop
  | one {i k : Nat} {w : Int} : (i, k, w) ∈ E → Via E M i k w
  | cons {i j k : Nat} {w s : Int} : (i, j, w) ∈ E → j < M → Via E M j k s → Via E M i k (w + s)
/-- A chain of bounds, maybe of none. -/
inductive Ch (E : List Bd) : Nat → Nat → Int → Prop
  | nil (i : Nat) : Ch E i i 0
  | cons {i j k : Nat} {w s : Int} : (i, j, w) ∈ E → Ch E j k s → Ch E i k (w + s)
theorem Ch.one {E : List Bd} {i k : Nat} {w : Int} (h : (i, k, w) ∈ E) : Ch E i k w := by
  have := Ch.cons h (Ch.nil k)
  rwa [Int.add_zero] at this
theorem Ch.app {E : List Bd} {i j k : Nat} {s t : Int} (h : Ch E i j s) (h2 : Ch E j k t) : Ch E i k (s + t) := by
  induction h with
  | nil i => rwa [Int.zero_add]
  | cons he _ ih => rw [Int.add_assoc]; exact Ch.cons he (ih h2)
/-- All bounds are between variables below n. -/
def In (n : Nat) (E : List Bd) : Prop := ∀ e ∈ E, e.1 < n ∧ e.2.1 < n
theorem Ch.via {E : List Bd} {n : Nat} (hE : In n E) {i k : Nat} {s : Int} (h : Ch E i k s) : (i = k ∧ s = 0) ∨ Via E n i k s := by
  induction h with
  | nil i => exact .inl ⟨rfl, rfl⟩
  | cons he _ ih =>
    rcases ih with ⟨rfl, rfl⟩ | h
    · rw [Int.add_zero]; exact .inr (.one he)
    · exact .inr (.cons he (hE _ he).2 h)
theorem Via.ch {E : List Bd} {M i k : Nat} {s : Int} (h : Via E M i k s) : Ch E i k s := by
  induction h with
  | one he => exact Ch.one he
  | cons he _ _ ih => exact Ch.cons he ih
theorem Via.zero {E : List Bd} {i k : Nat} {s : Int} (h : Via E 0 i k s) : (i, k, s) ∈ E := by
  cases h with
  | one he => exact he
  | cons _ h0 _ => exact absurd h0 (Nat.not_lt_zero _)
/-- A chain through M is one to M and one from M, where loops at M can be left out. -/
theorem Via.split {E : List Bd} {M : Nat} (hloop : ∀ s, Via E M M M s → 0 ≤ s) {i k : Nat} {s : Int} (h : Via E (M + 1) i k s) :
    Via E M i k s ∨ ∃ s1 s2, Via E M i M s1 ∧ Via E M M k s2 ∧ s1 + s2 ≤ s := by
  induction h with
  | one he => exact .inl (.one he)
  | @cons i j k w s he hj _ ih =>
    by_cases hjm : j < M
    · rcases ih with h | ⟨s1, s2, h1, h2, h3⟩
      · exact .inl (.cons he hjm h)
      · exact .inr ⟨w + s1, s2, .cons he hjm h1, h2, by omega⟩
    · obtain rfl : j = M := by omega
      rcases ih with h | ⟨s1, s2, h1, h2, h3⟩
      · exact .inr ⟨w, s, .one he, h, Int.le_refl _⟩
      · have := hloop s1 h1
        exact .inr ⟨w, s2, .one he, h2, by omega⟩

/-- A table: none is far. -/
abbrev Tb := Nat → Nat → Option Int
def plusO : Option Int → Option Int → Option Int
  | some a, some b => some (a + b)
  | _, _ => none
def minO : Option Int → Option Int → Option Int
  | some a, some b => some (min a b)
  | some a, none => some a
  | none, b => b
def LeO (o : Option Int) (s : Int) : Prop := ∃ x, o = some x ∧ x ≤ s
theorem LeO.min_l {a b : Option Int} {s : Int} (h : LeO a s) : LeO (minO a b) s := by
  obtain ⟨x, rfl, hx⟩ := h
  cases b with
  | none => exact ⟨x, rfl, hx⟩
  | some b => exact ⟨min x b, rfl, by omega⟩
theorem LeO.min_r {a b : Option Int} {s : Int} (h : LeO b s) : LeO (minO a b) s := by
  obtain ⟨x, rfl, hx⟩ := h
  cases a with
  | none => exact ⟨x, rfl, hx⟩
  | some a => exact ⟨min a x, rfl, by omega⟩
theorem LeO.plus {a b : Option Int} {s t : Int} (h : LeO a s) (h2 : LeO b t) : LeO (plusO a b) (s + t) := by
  obtain ⟨x, rfl, hx⟩ := h
  obtain ⟨y, rfl, hy⟩ := h2
  exact ⟨x + y, rfl, by omega⟩
theorem LeO.mono {a : Option Int} {s t : Int} (h : LeO a s) (hs : s ≤ t) : LeO a t := by
  obtain ⟨x, e, hx⟩ := h
  exact ⟨x, e, by omega⟩
theorem minO_cases (a b : Option Int) : minO a b = a ∨ minO a b = b := by
  cases a with
  | none => exact .inr rfl
  | some a =>
    cases b with
    | none => exact .inl rfl
    | some b =>
      by_cases h : a ≤ b
      · exact .inl (by simp only [minO]; rw [Int.min_eq_left h])
      · exact .inr (by simp only [minO]; rw [Int.min_eq_right (by omega)])
def upd (D : Tb) (i k : Nat) (v : Option Int) : Tb := fun a b => if a = i ∧ b = k then v else D a b
theorem upd_same (D : Tb) (i k : Nat) (v : Option Int) : upd D i k v i k = v := if_pos ⟨rfl, rfl⟩
theorem upd_other (D : Tb) {i k a b : Nat} (v : Option Int) (h : ¬ (a = i ∧ b = k)) : upd D i k v a b = D a b := if_neg h
/-- Every number in a table is the sum of a chain. -/
def Sound (E : List Bd) (D : Tb) : Prop := ∀ i k x, D i k = some x → Ch E i k x
theorem Sound.upd {E : List Bd} {D : Tb} (h : Sound E D) (i k : Nat) (v : Option Int) (hv : ∀ x, v = some x → Ch E i k x) : Sound E (upd D i k v) := by
  intro a b x hx
  by_cases hab : a = i ∧ b = k
  · obtain ⟨rfl, rfl⟩ := hab
    rw [upd_same] at hx
    exact hv x hx
  · rw [upd_other D v hab] at hx
    exact h a b x hx
theorem Sound.min {E : List Bd} {D : Tb} (h : Sound E D) (i k : Nat) (v : Option Int) (hv : ∀ x, v = some x → Ch E i k x) : Sound E (Pl.upd D i k (minO (D i k) v)) :=
  h.upd i k _ fun x hx => by
    rcases minO_cases (D i k) v with e | e
    · exact h i k x (e ▸ hx)
    · exact hv x (e ▸ hx)
/-- The innermost assignment. -/
def relax (T : Nat → Option Int) (m i k : Nat) (D : Tb) : Tb := upd D i k (minO (D i k) (plusO (D i m) (T k)))
theorem Sound.relax {E : List Bd} {D : Tb} (h : Sound E D) {T : Nat → Option Int} {m : Nat} (hT : ∀ k x, T k = some x → Ch E m k x) (i k : Nat) : Sound E (Pl.relax T m i k D) := by
  refine h.min i k _ fun x hx => ?_
  cases h1 : D i m with
  | none => rw [h1] at hx; exact absurd hx (by simp [plusO])
  | some a =>
    cases h2 : T k with
    | none => rw [h1, h2] at hx; exact absurd hx (by simp [plusO])
    | some b =>
      rw [h1, h2] at hx
      simp only [plusO, Option.some.injEq] at hx
      subst hx
      exact (h i m a h1).app (hT k b h2)
/-- One row: for k below n. -/
def rowM (T : Nat → Option Int) (m i : Nat) : Nat → Tb → Tb
  | 0, D => D
  | k + 1, D => relax T m i k (rowM T m i k D)
/-- All rows: for i below n. -/
def allM (T : Nat → Option Int) (m n : Nat) : Nat → Tb → Tb
  | 0, D => D
  | i + 1, D => rowM T m i n (allM T m n i D)
/-- The loop over m. -/
def fw (n : Nat) : Nat → Tb → Tb
  | 0, D => D
  | m + 1, D => allM (fw n m D m) m n n (fw n m D)
theorem Sound.rowM {E : List Bd} {T : Nat → Option Int} {m i : Nat} (hT : ∀ k x, T k = some x → Ch E m k x) (n : Nat) {D : Tb} (h : Sound E D) : Sound E (Pl.rowM T m i n D) := by
  induction n with
  | zero => exact h
  | succ n ih => exact ih.relax hT i n
theorem Sound.allM {E : List Bd} {T : Nat → Option Int} {m n : Nat} (hT : ∀ k x, T k = some x → Ch E m k x) (r : Nat) {D : Tb} (h : Sound E D) : Sound E (Pl.allM T m n r D) := by
  induction r with
  | zero => exact h
  | succ r ih => exact ih.rowM hT n
theorem Sound.fw {E : List Bd} {n : Nat} (r : Nat) {D : Tb} (h : Sound E D) : Sound E (Pl.fw n r D) := by
  induction r with
  | zero => exact h
  | succ r ih => exact ih.allM (fun k x hx => ih r k x hx) n
end Go.Proofs.Ytlokeimfmbgigaa.Pl

set_option linter.unusedVariables false
set_option linter.unusedSimpArgs false
namespace Go.Proofs.Ytlokeimfmbgigaa.Pl

/-- Nothing is greater afterwards. -/
def Down (D D' : Tb) : Prop := ∀ a b s, LeO (D a b) s → LeO (D' a b) s
theorem Down.refl (D : Tb) : Down D D := fun _ _ _ h => h
theorem Down.trans {D D' D'' : Tb} (h : Down D D') (h2 : Down D' D'') : Down D D'' := fun a b s x => h2 a b s (h a b s x)
theorem relax_down (T : Nat → Option Int) (m i k : Nat) (D : Tb) : Down D (relax T m i k D) := by
  intro a b s h
  unfold relax
  by_cases hab : a = i ∧ b = k
  · obtain ⟨rfl, rfl⟩ := hab
    rw [upd_same]
    exact h.min_l
  · rw [upd_other _ _ hab]; exact h
theorem rowM_down (T : Nat → Option Int) (m i n : Nat) (D : Tb) : Down D (rowM T m i n D) := by
  induction n with
  | zero => exact Down.refl _
  | succ n ih => exact ih.trans (relax_down T m i n _)
theorem allM_down (T : Nat → Option Int) (m n r : Nat) (D : Tb) : Down D (allM T m n r D) := by
  induction r with
  | zero => exact Down.refl _
  | succ r ih => exact ih.trans (rowM_down T m r n _)
theorem fw_down (n r : Nat) (D : Tb) : Down D (fw n r D) := by
  induction r with
  | zero => exact Down.refl _
  | succ r ih => exact ih.trans (allM_down _ r n n _)
theorem fw_le (n : Nat) (D : Tb) {r r' : Nat} (h : r ≤ r') : Down (fw n r D) (fw n r' D) := by
  induction r' with
  | zero => obtain rfl : r = 0 := by omega
            exact Down.refl _
  | succ r' ih =>
    by_cases he : r = r' + 1
    · subst he; exact Down.refl _
    · exact (ih (by omega)).trans (allM_down _ r' n n _)
theorem rowM_does (T : Nat → Option Int) (m i n : Nat) (D : Tb) {k : Nat} (hk : k < n) {s t : Int} (h : LeO (D i m) s) (h2 : LeO (T k) t) : LeO (rowM T m i n D i k) (s + t) := by
  induction n with
  | zero => omega
  | succ n ih =>
    by_cases he : k = n
    · subst he
      show LeO (relax T m i k (rowM T m i k D) i k) (s + t)
      unfold relax
      rw [upd_same]
      exact LeO.min_r (LeO.plus (rowM_down T m i k D i m s h) h2)
    · exact relax_down T m i n _ i k _ (ih (by omega))
theorem allM_does (T : Nat → Option Int) (m n r : Nat) (D : Tb) {i k : Nat} (hi : i < r) (hk : k < n) {s t : Int} (h : LeO (D i m) s) (h2 : LeO (T k) t) : LeO (allM T m n r D i k) (s + t) := by
  induction r with
  | zero => omega
  | succ r ih =>
    by_cases he : i = r
    · subst he
      exact rowM_does T m i n _ hk (allM_down T m n i D i m s h) h2
    · exact rowM_down T m r n _ i k _ (ih (by omega))
theorem fw_via {n : Nat} {E : List Bd} (hE : In n E) {D : Tb} (hD : ∀ e ∈ E, LeO (D e.1 e.2.1) e.2.2) (hok : ∀ i, i < n → ∀ x, fw n n D i i = some x → 0 ≤ x) (M : Nat) (hM : M ≤ n) :
    ∀ i k s, i < n → k < n → Via E M i k s → LeO (fw n M D i k) s := by
  induction M with
  | zero => intro i k s _ _ h; exact hD _ h.zero
  | succ M ih =>
    intro i k s hi hk h
    have ih' := ih (by omega)
    have hloop : ∀ s, Via E M M M s → 0 ≤ s := by
      intro s hs
      obtain ⟨x, hx, hxs⟩ := fw_le n D (show M ≤ n by omega) M M s (ih' M M s (by omega) (by omega) hs)
      have := hok M (by omega) x hx
      omega
    rcases Via.split hloop h with h | ⟨s1, s2, h1, h2, h3⟩
    · exact allM_down _ M n n _ i k s (ih' i k s hi hk h)
    · exact (allM_does (fw n M D M) M n n (fw n M D) hi hk (ih' i M s1 hi (by omega) h1) (ih' M k s2 (by omega) hk h2)).mono h3
/-- What the loops find, where no variable comes out below 0. -/
theorem fw_least {n : Nat} {E : List Bd} (hE : In n E) {D : Tb} (hD : ∀ e ∈ E, LeO (D e.1 e.2.1) e.2.2) (h0 : ∀ i, i < n → LeO (D i i) 0) (hok : ∀ i, i < n → ∀ x, fw n n D i i = some x → 0 ≤ x) {i k : Nat} {s : Int} (hi : i < n) (hk : k < n) (h : Ch E i k s) : LeO (fw n n D i k) s := by
  rcases h.via hE with ⟨rfl, rfl⟩ | h
  · exact fw_down n n D i i 0 (h0 i hi)
  · exact fw_via hE hD hok n (Nat.le_refl _) i k s hi hk h
/-- No variable comes out below 0 exactly if no chain that ends where it begins has a sum below 0. -/
theorem fw_ok {n : Nat} {E : List Bd} (hE : In n E) {D : Tb} (hS : Sound E D) (hD : ∀ e ∈ E, LeO (D e.1 e.2.1) e.2.2) (h0 : ∀ i, i < n → LeO (D i i) 0) :
    (∀ i, i < n → ∀ x, fw n n D i i = some x → 0 ≤ x) ↔ ∀ i s, i < n → Ch E i i s → 0 ≤ s := by
  constructor
  · intro hok i s hi h
    obtain ⟨x, hx, hxs⟩ := fw_least hE hD h0 hok hi hi h
    have := hok i hi x hx
    omega
  · intro h i hi x hx
    exact h i x hi (hS.fw n i i x hx)
/-- The least sums are known by what they are. -/
def Least (E : List Bd) (n : Nat) (D : Tb) : Prop := (∀ i k x, D i k = some x → Ch E i k x) ∧ ∀ i k s, i < n → k < n → Ch E i k s → LeO (D i k) s
theorem Least.same {E : List Bd} {n : Nat} {D D' : Tb} (h : Least E n D) (h' : Least E n D') {i k : Nat} (hi : i < n) (hk : k < n) : D i k = D' i k := by
  cases h1 : D i k with
  | none =>
    cases h2 : D' i k with
    | none => rfl
    | some y =>
      obtain ⟨x, e, _⟩ := h.2 i k y hi hk (h'.1 i k y h2)
      rw [h1] at e
      exact absurd e (by simp)
  | some x =>
    obtain ⟨y, e2, hy⟩ := h'.2 i k x hi hk (h.1 i k x h1)
    obtain ⟨z, e1, hz⟩ := h.2 i k y hi hk (h'.1 i k y e2)
    rw [h1] at e1
    cases e1
    rw [e2]
    congr 1
    omega
/-- Bounds with From and To exchanged. -/
def turn (E : List Bd) : List Bd := E.map fun e => (e.2.1, e.1, e.2.2)
theorem mem_turn {E : List Bd} {i k : Nat} {w : Int} : (i, k, w) ∈ turn E ↔ (k, i, w) ∈ E := by
  unfold turn
  rw [List.mem_map]
  constructor
  · rintro ⟨⟨a, b, c⟩, h, e⟩
    simp only [Prod.mk.injEq] at e
    obtain ⟨rfl, rfl, rfl⟩ := e
    exact h
  · intro h
    exact ⟨(k, i, w), h, rfl⟩
theorem Ch.turn {E : List Bd} {i k : Nat} {s : Int} (h : Ch E i k s) : Ch (Pl.turn E) k i s := by
  induction h with
  | nil i => exact .nil i
  | @cons i j k w s he _ ih =>
    rw [Int.add_comm]
    exact ih.app (Ch.one (mem_turn.2 he))
theorem turn_turn (E : List Bd) : turn (turn E) = E := by
  unfold turn
  rw [List.map_map]
  have : ((fun e : Bd => (e.2.1, e.1, e.2.2)) ∘ fun e : Bd => (e.2.1, e.1, e.2.2)) = id := by funext ⟨a, b, c⟩; rfl
  rw [this, List.map_id]
theorem Least.turn {E : List Bd} {n : Nat} {D : Tb} (h : Least E n D) : Least (Pl.turn E) n (fun i k => D k i) :=
  ⟨fun i k x hx => (h.1 k i x hx).turn, fun i k s hi hk hc => h.2 k i s hk hi (by have := hc.turn; rwa [turn_turn] at this)⟩
/-- What a situation keeps. -/
def Keeps (E : List Bd) (x : Nat → Int) : Prop := ∀ e ∈ E, x e.2.1 - x e.1 ≤ e.2.2
theorem Ch.keeps {E : List Bd} {x : Nat → Int} (hx : Keeps E x) {i k : Nat} {s : Int} (h : Ch E i k s) : x k - x i ≤ s := by
  induction h with
  | nil i => omega
  | cons he _ ih => have := hx _ he; simp only at this; omega
/-- A further bound that is implied makes no chain less. -/
theorem Ch.more {E : List Bd} {n : Nat} {D : Tb} (h : Least E n D) (hE : In n E) {f t : Nat} {w : Int} (hf : f < n) (ht : t < n) (hw : LeO (D f t) w) {i k : Nat} {s : Int} (hk : k < n) (hc : Ch (E ++ [(f, t, w)]) i k s) : i < n → ∃ s', Ch E i k s' ∧ s' ≤ s := by
  induction hc with
  | nil i => intro _; exact ⟨0, .nil i, Int.le_refl _⟩
  | @cons i j k w' s he _ ih =>
    intro hi
    rcases List.mem_append.1 he with he | he
    · obtain ⟨s', h1, h2⟩ := ih hk (hE _ he).2
      exact ⟨w' + s', .cons he h1, by omega⟩
    · simp only [List.mem_singleton, Prod.mk.injEq] at he
      obtain ⟨rfl, rfl, rfl⟩ := he
      obtain ⟨s', h1, h2⟩ := ih hk ht
      obtain ⟨x, hx, hxw⟩ := hw
      exact ⟨x + s', (h.1 _ _ _ hx).app h1, by omega⟩
theorem Ch.sub {E E' : List Bd} (h : ∀ e ∈ E, e ∈ E') {i k : Nat} {s : Int} (hc : Ch E i k s) : Ch E' i k s := by
  induction hc with
  | nil i => exact .nil i
  | cons he _ ih => exact .cons (h _ he) ih
end Go.Proofs.Ytlokeimfmbgigaa.Pl

set_option linter.unusedVariables false
set_option linter.unusedSimpArgs false
namespace Go.Proofs.Ytlokeimfmbgigaa.Pl

def BdO (B : Int) (o : Option Int) : Prop := ∀ x, o = some x → -B ≤ x ∧ x ≤ B
theorem BdO.mono {A B : Int} {o : Option Int} (h : BdO A o) (hab : A ≤ B) : BdO B o := fun x hx => by have := h x hx; omega
theorem BdO.none (B : Int) : BdO B none := fun x hx => by cases hx
theorem BdO.min {B : Int} {a b : Option Int} (ha : BdO B a) (hb : BdO B b) : BdO B (minO a b) := by
  rcases minO_cases a b with e | e
  · rw [e]; exact ha
  · rw [e]; exact hb
theorem BdO.plus {A B : Int} {a b : Option Int} (ha : BdO A a) (hb : BdO B b) : BdO (A + B) (plusO a b) := by
  intro x hx
  cases a with
  | none => simp [plusO] at hx
  | some a =>
    cases b with
    | none => simp [plusO] at hx
    | some b =>
      simp only [plusO, Option.some.injEq] at hx
      have := ha a rfl
      have := hb b rfl
      omega
theorem relax_at (T : Nat → Option Int) (m i k : Nat) (D : Tb) (a b : Nat) : relax T m i k D a b = if a = i ∧ b = k then minO (D i k) (plusO (D i m) (T k)) else D a b := rfl
theorem rowM_bd {T : Nat → Option Int} {m i : Nat} {B : Int} (hB : 0 ≤ B) (hT : ∀ k, BdO B (T k)) {D : Tb} (h : ∀ k, BdO B (D i k)) (n : Nat) :
    (∀ k, BdO (3 * B) (rowM T m i n D i k)) ∧ BdO (2 * B) (rowM T m i n D i m) ∧ (n ≤ m → BdO B (rowM T m i n D i m)) ∧ ∀ a b, a ≠ i → rowM T m i n D a b = D a b := by
  induction n with
  | zero => exact ⟨fun k => (h k).mono (by omega), (h m).mono (by omega), fun _ => h m, fun _ _ _ => rfl⟩
  | succ n ih =>
    obtain ⟨i1, i2, i3, i4⟩ := ih
    simp only [rowM]
    refine ⟨fun k => ?_, ?_, fun hm => ?_, fun a b ha => ?_⟩
    · rw [relax_at]
      by_cases hk : k = n
      · rw [if_pos ⟨rfl, hk⟩]
        exact BdO.min (i1 n) ((BdO.plus i2 (hT n)).mono (by omega))
      · rw [if_neg (fun e => hk e.2)]; exact i1 k
    · rw [relax_at]
      by_cases hk : m = n
      · rw [if_pos ⟨rfl, hk⟩]
        subst hk
        exact BdO.min i2 ((BdO.plus (i3 (Nat.le_refl _)) (hT m)).mono (by omega))
      · rw [if_neg (fun e => hk e.2)]; exact i2
    · rw [relax_at, if_neg (fun e => by omega)]; exact i3 (by omega)
    · rw [relax_at, if_neg (fun e => ha e.1)]; exact i4 a b ha
theorem allM_bd {T : Nat → Option Int} {m n : Nat} {B : Int} (hB : 0 ≤ B) (hT : ∀ k, BdO B (T k)) {D : Tb} (h : ∀ i k, BdO B (D i k)) (r : Nat) :
    (∀ i k, BdO (3 * B) (allM T m n r D i k)) ∧ ∀ i k, r ≤ i → allM T m n r D i k = D i k := by
  induction r with
  | zero => exact ⟨fun i k => (h i k).mono (by omega), fun _ _ _ => rfl⟩
  | succ r ih =>
    obtain ⟨i1, i2⟩ := ih
    have hr := rowM_bd (m := m) (i := r) hB hT (D := allM T m n r D) (fun k => by rw [i2 r k (Nat.le_refl _)]; exact h r k) n
    simp only [allM]
    refine ⟨fun i k => ?_, fun i k hi => ?_⟩
    · by_cases he : i = r
      · subst he; exact hr.1 k
      · rw [hr.2.2.2 i k he]; exact i1 i k
    · rw [hr.2.2.2 i k (by omega)]; exact i2 i k (by omega)
def pow3 : Nat → Int
  | 0 => 1
  | r + 1 => 3 * pow3 r
theorem pow3_pos (r : Nat) : 1 ≤ pow3 r := by
  induction r with
  | zero => decide
  | succ r ih => simp only [pow3]; omega
theorem pow3_mono {a b : Nat} (h : a ≤ b) : pow3 a ≤ pow3 b := by
  induction b with
  | zero => obtain rfl : a = 0 := by omega
            exact Int.le_refl _
  | succ b ih =>
    by_cases he : a = b + 1
    · subst he; exact Int.le_refl _
    · have := ih (by omega)
      have := pow3_pos b
      simp only [pow3]
      omega
theorem fw_bd {n : Nat} {B : Int} (hB : 0 ≤ B) {D : Tb} (h : ∀ i k, BdO B (D i k)) (r : Nat) : ∀ i k, BdO (pow3 r * B) (fw n r D i k) := by
  induction r with
  | zero => intro i k; exact (h i k).mono (by simp [pow3])
  | succ r ih =>
    intro i k
    have hp : 0 ≤ pow3 r * B := Int.mul_nonneg (by have := pow3_pos r; omega) hB
    have := (allM_bd (m := r) (n := n) hp (fun k => ih r k) ih n).1 i k
    refine this.mono ?_
    simp only [pow3]
    rw [Int.mul_assoc]
    exact Int.le_refl _

/-! ### numbers with a far value -/
def Far : Int := 1152921504606846976
def encF (o : Option Int) : Int := o.getD Far
def plusI (a b : Int) : Int := if a = Far then Far else if b = Far then Far else a + b
theorem encF_min {a b : Option Int} {B : Int} (hB : B ≤ Far) (ha : BdO B a) (hb : BdO B b) : encF (minO a b) = min (encF a) (encF b) := by
  cases a with
  | none =>
    cases b with
    | none => simp [minO, encF]
    | some b => have := hb b rfl; simp only [minO, encF, Option.getD]; omega
  | some a =>
    have := ha a rfl
    cases b with
    | none => simp only [minO, encF, Option.getD]; omega
    | some b => simp [minO, encF]
theorem encF_plus {a b : Option Int} {B : Int} (hB : B < Far) (ha : BdO B a) (hb : BdO B b) : encF (plusO a b) = plusI (encF a) (encF b) := by
  unfold plusI
  cases a with
  | none => rw [if_pos (show encF none = Far from rfl)]; rfl
  | some a =>
    have := ha a rfl
    rw [if_neg (show ¬ encF (some a) = Far by simp only [encF, Option.getD]; omega)]
    cases b with
    | none => rw [if_pos (show encF none = Far from rfl)]; rfl
    | some b =>
      have := hb b rfl
      rw [if_neg (show ¬ encF (some b) = Far by simp only [encF, Option.getD]; omega)]
      rfl
abbrev Ti := Nat → Nat → Int
def encT (D : Tb) : Ti := fun i k => encF (D i k)
def updI (D : Ti) (i k : Nat) (v : Int) : Ti := fun a b => if a = i ∧ b = k then v else D a b
def relaxI (T : Nat → Int) (m i k : Nat) (D : Ti) : Ti := updI D i k (min (D i k) (plusI (D i m) (T k)))
def rowI (T : Nat → Int) (m i : Nat) : Nat → Ti → Ti
  | 0, D => D
  | k + 1, D => relaxI T m i k (rowI T m i k D)
def allI (T : Nat → Int) (m n : Nat) : Nat → Ti → Ti
  | 0, D => D
  | i + 1, D => rowI T m i n (allI T m n i D)
def fwI (n : Nat) : Nat → Ti → Ti
  | 0, D => D
  | m + 1, D => allI (fwI n m D m) m n n (fwI n m D)
theorem relax_tie {T : Nat → Option Int} {m i k : Nat} {D : Tb} {B : Int} (hB : 2 * B < Far) (h0 : 0 ≤ B) (hT : BdO B (T k)) (h1 : BdO B (D i m)) (h2 : BdO (2 * B) (D i k)) : encT (relax T m i k D) = relaxI (fun k => encF (T k)) m i k (encT D) := by
  funext a b
  show encF (relax T m i k D a b) = updI (encT D) i k _ a b
  rw [relax_at]
  unfold updI
  by_cases h : a = i ∧ b = k
  · rw [if_pos h, if_pos h, encF_min (B := 2 * B) (by omega) h2 ((BdO.plus h1 hT).mono (by omega)), encF_plus (B := B) (by omega) h1 hT]
    rfl
  · rw [if_neg h, if_neg h]; rfl
theorem rowM_tie {T : Nat → Option Int} {m i : Nat} {B : Int} (hB : 0 ≤ B) (hB2 : 6 * B < Far) (hT : ∀ k, BdO B (T k)) {D : Tb} (h : ∀ k, BdO B (D i k)) (n : Nat) : encT (rowM T m i n D) = rowI (fun k => encF (T k)) m i n (encT D) := by
  induction n with
  | zero => rfl
  | succ n ih =>
    obtain ⟨b1, b2, _, _⟩ := rowM_bd (m := m) (i := i) hB hT h n
    simp only [rowM, rowI]
    rw [relax_tie (B := 3 * B) (by omega) (by omega) ((hT n).mono (by omega)) (b2.mono (by omega)) ((b1 n).mono (by omega)), ih]
theorem allM_tie {T : Nat → Option Int} {m n : Nat} {B : Int} (hB : 0 ≤ B) (hB2 : 6 * B < Far) (hT : ∀ k, BdO B (T k)) {D : Tb} (h : ∀ i k, BdO B (D i k)) (r : Nat) : encT (allM T m n r D) = allI (fun k => encF (T k)) m n r (encT D) := by
  induction r with
  | zero => rfl
  | succ r ih =>
    simp only [allM, allI]
    rw [rowM_tie hB hB2 hT (fun k => by rw [(allM_bd hB hT h r).2 r k (Nat.le_refl _)]; exact h r k) n, ih]
theorem fw_tie {n : Nat} {B : Int} (hB : 0 ≤ B) {D : Tb} (h : ∀ i k, BdO B (D i k)) (r : Nat) (hr : 6 * (pow3 r * B) < Far) : encT (fw n r D) = fwI n r (encT D) := by
  induction r with
  | zero => rfl
  | succ r ih =>
    have hp : 0 ≤ pow3 r * B := Int.mul_nonneg (by have := pow3_pos r; omega) hB
    have hr2 : 6 * (pow3 r * B) < Far := by simp only [pow3] at hr; rw [Int.mul_assoc] at hr; omega
    simp only [fw, fwI]
    rw [allM_tie hp hr2 (fun k => fw_bd hB h r r k) (fun i k => fw_bd hB h r i k) n, ih hr2]
    congr 1
    funext k
    have := congrFun (congrFun (ih hr2) r) k
    exact this
end Go.Proofs.Ytlokeimfmbgigaa.Pl

set_option linter.unusedVariables false
set_option linter.unusedSimpArgs false
namespace Go.Proofs.Ytlokeimfmbgigaa.Pl

def noneT : Tb := fun i k => if i = k then some 0 else none
def addE (D : Tb) (e : Bd) : Tb := upd D e.1 e.2.1 (minO (D e.1 e.2.1) (some e.2.2))
def baseT (E : List Bd) : Tb := E.foldl addE noneT
/-- The table that the three loops leave. -/
def distT (n : Nat) (E : List Bd) : Tb := fw n n (baseT E)
/-- No contradiction. -/
def Fine (n : Nat) (E : List Bd) : Prop := ∀ i s, i < n → Ch E i i s → 0 ≤ s
theorem addE_at (D : Tb) (e : Bd) (a b : Nat) : addE D e a b = if a = e.1 ∧ b = e.2.1 then minO (D e.1 e.2.1) (some e.2.2) else D a b := rfl
theorem addE_down (D : Tb) (e : Bd) : Down D (addE D e) := by
  intro a b s h
  rw [addE_at]
  by_cases hab : a = e.1 ∧ b = e.2.1
  · rw [if_pos hab, ← hab.1, ← hab.2]; exact h.min_l
  · rw [if_neg hab]; exact h
theorem fold_down (E : List Bd) : ∀ D, Down D (E.foldl addE D) := by
  induction E with
  | nil => intro D; exact Down.refl D
  | cons e E ih => intro D; exact (addE_down D e).trans (ih (addE D e))
theorem fold_le (E : List Bd) : ∀ D, ∀ e ∈ E, LeO (E.foldl addE D e.1 e.2.1) e.2.2 := by
  induction E with
  | nil => intro D e he; cases he
  | cons e E ih =>
    intro D e' he
    rcases List.mem_cons.1 he with rfl | he
    · refine fold_down E (addE D e') _ _ _ ?_
      rw [addE_at, if_pos ⟨rfl, rfl⟩]
      exact LeO.min_r ⟨_, rfl, Int.le_refl _⟩
    · exact ih (addE D e) e' he
theorem fold_sound {E0 : List Bd} (E : List Bd) : ∀ D, (∀ e ∈ E, e ∈ E0) → Sound E0 D → Sound E0 (E.foldl addE D) := by
  induction E with
  | nil => intro D _ h; exact h
  | cons e E ih =>
    intro D he h
    refine ih (addE D e) (fun x hx => he x (List.mem_cons_of_mem _ hx)) (h.min e.1 e.2.1 (some e.2.2) fun x hx => ?_)
    cases hx
    exact Ch.one (he e (List.mem_cons_self ..))
theorem fold_bd {B : Int} (E : List Bd) : ∀ D : Tb, (∀ e ∈ E, -B ≤ e.2.2 ∧ e.2.2 ≤ B) → (∀ i k, BdO B (D i k)) → ∀ i k, BdO B (E.foldl addE D i k) := by
  induction E with
  | nil => intro D _ h; exact h
  | cons e E ih =>
    intro D he h
    refine ih (addE D e) (fun x hx => he x (List.mem_cons_of_mem _ hx)) (fun i k => ?_)
    rw [addE_at]
    split
    · exact BdO.min (h _ _) (fun x hx => by cases hx; exact he e (List.mem_cons_self ..))
    · exact h i k
theorem base_sound (E : List Bd) : Sound E (baseT E) := fold_sound E noneT (fun _ h => h) fun i k x hx => by
  unfold noneT at hx
  split at hx
  · rename_i e; subst e; cases hx; exact .nil i
  · cases hx
theorem base_zero (E : List Bd) (i : Nat) : LeO (baseT E i i) 0 := fold_down E noneT i i 0 ⟨0, if_pos rfl, Int.le_refl _⟩
theorem base_bd {B : Int} (hB : 0 ≤ B) {E : List Bd} (hE : ∀ e ∈ E, -B ≤ e.2.2 ∧ e.2.2 ≤ B) : ∀ i k, BdO B (baseT E i k) := fold_bd E noneT hE fun i k x hx => by
  unfold noneT at hx
  split at hx
  · cases hx; omega
  · cases hx
theorem dist_ok {n : Nat} {E : List Bd} (hE : In n E) : (∀ i, i < n → ∀ x, distT n E i i = some x → 0 ≤ x) ↔ Fine n E :=
  fw_ok hE (base_sound E) (fun e he => fold_le E noneT e he) (fun i _ => base_zero E i)
theorem dist_least {n : Nat} {E : List Bd} (hE : In n E) (hf : Fine n E) : Least E n (distT n E) :=
  ⟨fun i k x hx => (base_sound E).fw n i k x hx, fun i k s hi hk h => fw_least hE (fun e he => fold_le E noneT e he) (fun i _ => base_zero E i) ((dist_ok hE).2 hf) hi hk h⟩

/-! ### the same over numbers -/
def noneI : Ti := fun i k => if i = k then 0 else Far
def addI (D : Ti) (e : Bd) : Ti := updI D e.1 e.2.1 (min (D e.1 e.2.1) e.2.2)
def baseI (E : List Bd) : Ti := E.foldl addI noneI
def distI (n : Nat) (E : List Bd) : Ti := fwI n n (baseI E)
theorem none_tie : encT noneT = noneI := by
  funext i k
  unfold encT noneT noneI
  by_cases h : i = k
  · rw [if_pos h, if_pos h]; rfl
  · rw [if_neg h, if_neg h]; rfl
theorem fold_tie {B : Int} (hB : B < Far) (E : List Bd) : ∀ D : Tb, (∀ e ∈ E, -B ≤ e.2.2 ∧ e.2.2 ≤ B) → (∀ i k, BdO B (D i k)) → encT (E.foldl addE D) = E.foldl addI (encT D) := by
  induction E with
  | nil => intro D _ _; rfl
  | cons e E ih =>
    intro D he h
    have hb : BdO B (some e.2.2) := fun x hx => by cases hx; exact he e (List.mem_cons_self ..)
    have hadd : encT (addE D e) = addI (encT D) e := by
      funext a b
      show encF (addE D e a b) = updI (encT D) e.1 e.2.1 _ a b
      rw [addE_at]
      unfold updI
      by_cases hab : a = e.1 ∧ b = e.2.1
      · rw [if_pos hab, if_pos hab, encF_min (by omega) (h _ _) hb]; rfl
      · rw [if_neg hab, if_neg hab]; rfl
    simp only [List.foldl_cons]
    rw [ih (addE D e) (fun x hx => he x (List.mem_cons_of_mem _ hx)) (fun i k => by
      rw [addE_at]
      split
      · exact BdO.min (h _ _) hb
      · exact h i k), hadd]
theorem pow3_16 : pow3 16 = 43046721 := by decide
theorem dist_tie {n : Nat} (hn : n ≤ 16) {E : List Bd} (hE : ∀ e ∈ E, -1000000000 ≤ e.2.2 ∧ e.2.2 ≤ 1000000000) : encT (distT n E) = distI n E := by
  have hp := pow3_mono hn
  rw [pow3_16] at hp
  unfold distT distI
  rw [fw_tie (B := 1000000000) (by omega) (base_bd (by omega) hE) n (by unfold Far; omega)]
  unfold baseT baseI
  rw [fold_tie (B := 1000000000) (by unfold Far; omega) E noneT hE (fun i k x hx => by
    unfold noneT at hx
    split at hx
    · cases hx; omega
    · cases hx), none_tie]
/-- The greatest amount in a table of distances. -/
theorem dist_bd {n : Nat} (hn : n ≤ 16) {E : List Bd} (hE : ∀ e ∈ E, -1000000000 ≤ e.2.2 ∧ e.2.2 ≤ 1000000000) (i k : Nat) : BdO 43046721000000000 (distT n E i k) := by
  have hp := pow3_mono hn
  rw [pow3_16] at hp
  exact (fw_bd (B := 1000000000) (by omega) (base_bd (by omega) hE) n i k).mono (by omega)
end Go.Proofs.Ytlokeimfmbgigaa.Pl

set_option linter.unusedVariables false
set_option linter.unusedSimpArgs false
namespace Go.Proofs.Ytlokeimfmbgigaa.Pl

/-- The least number of a column, and 0. -/
def solT (D : Tb) (k : Nat) : Nat → Int
  | 0 => 0
  | i + 1 => (minO (some (solT D k i)) (D i k)).getD 0
theorem solT_succ (D : Tb) (k i : Nat) : (D i k = none ∧ solT D k (i + 1) = solT D k i) ∨ ∃ x, D i k = some x ∧ solT D k (i + 1) = min (solT D k i) x := by
  cases h : D i k with
  | none => exact .inl ⟨rfl, by simp [solT, h, minO]⟩
  | some x => exact .inr ⟨x, rfl, by simp [solT, h, minO]⟩
theorem solT_zero (D : Tb) (k n : Nat) : solT D k n ≤ 0 := by
  induction n with
  | zero => exact Int.le_refl _
  | succ n ih => rcases solT_succ D k n with ⟨_, e⟩ | ⟨x, _, e⟩ <;> omega
theorem solT_le (D : Tb) (k n : Nat) {i : Nat} (hi : i < n) {x : Int} (hx : D i k = some x) : solT D k n ≤ x := by
  induction n with
  | zero => omega
  | succ n ih =>
    by_cases he : i = n
    · subst he
      rcases solT_succ D k i with ⟨e, _⟩ | ⟨y, e1, e2⟩
      · rw [hx] at e; cases e
      · rw [hx] at e1; cases e1; omega
    · have := ih (by omega)
      rcases solT_succ D k n with ⟨_, e⟩ | ⟨y, _, e⟩ <;> omega
theorem solT_got (D : Tb) (k n : Nat) : solT D k n = 0 ∨ ∃ i, i < n ∧ D i k = some (solT D k n) := by
  induction n with
  | zero => exact .inl rfl
  | succ n ih =>
    have keep : solT D k (n + 1) = solT D k n → solT D k (n + 1) = 0 ∨ ∃ i, i < n + 1 ∧ D i k = some (solT D k (n + 1)) := by
      intro e
      rw [e]
      rcases ih with h | ⟨i, hi, h⟩
      · exact .inl h
      · exact .inr ⟨i, by omega, h⟩
    rcases solT_succ D k n with ⟨_, e⟩ | ⟨x, hx, e⟩
    · exact keep e
    · by_cases hle : solT D k n ≤ x
      · exact keep (by omega)
      · exact .inr ⟨n, by omega, by rw [hx, e]; congr 1; omega⟩
theorem least_diag {E : List Bd} {n : Nat} {D : Tb} (h : Least E n D) (hf : Fine n E) {k : Nat} (hk : k < n) : D k k = some 0 := by
  obtain ⟨x, hx, hle⟩ := h.2 k k 0 hk hk (.nil k)
  have := hf k x hk (h.1 k k x hx)
  rw [hx]
  congr 1
  omega
theorem solT_at {E : List Bd} {n : Nat} {D : Tb} (h : Least E n D) (hf : Fine n E) {k : Nat} (hk : k < n) : ∃ i, i < n ∧ D i k = some (solT D k n) := by
  rcases solT_got D k n with e | e
  · exact ⟨k, hk, by rw [e]; exact least_diag h hf hk⟩
  · exact e
/-- It keeps all bounds. -/
theorem solT_keeps {E : List Bd} {n : Nat} {D : Tb} (h : Least E n D) (hf : Fine n E) (hE : In n E) : Keeps E (fun k => solT D k n) := by
  intro e he
  obtain ⟨hf1, ht1⟩ := hE e he
  obtain ⟨i, hi, hx⟩ := solT_at h hf hf1
  obtain ⟨y, hy, hle⟩ := h.2 i e.2.1 _ hi ht1 ((h.1 i e.1 _ hx).app (Ch.one (show (e.1, e.2.1, e.2.2) ∈ E from he)))
  have := solT_le D e.2.1 n hi hy
  simp only
  omega
/-- No other one without a value above 0 has a greater value anywhere. -/
theorem solT_greatest {E : List Bd} {n : Nat} {D : Tb} (h : Least E n D) {x : Nat → Int} (hx : Keeps E x) (h0 : ∀ i, i < n → x i ≤ 0) {k : Nat} (hk : k < n) : x k ≤ solT D k n := by
  rcases solT_got D k n with e | ⟨i, hi, e⟩
  · have := h0 k hk; omega
  · have := (h.1 i k _ e).keeps hx
    have := h0 i hi
    omega
/-- From a variable on, its distances are a situation that keeps all bounds between what can be reached. -/
theorem row_keeps {E : List Bd} {n : Nat} {D : Tb} (h : Least E n D) (hE : In n E) {i : Nat} (hi : i < n) : ∀ e ∈ E, ∀ x, D i e.1 = some x → LeO (D i e.2.1) (x + e.2.2) := by
  intro e he x hx
  exact h.2 i e.2.1 _ hi (hE e he).2 ((h.1 i e.1 x hx).app (Ch.one (show (e.1, e.2.1, e.2.2) ∈ E from he)))
end Go.Proofs.Ytlokeimfmbgigaa.Pl

set_option linter.unusedVariables false
set_option linter.unusedSimpArgs false
namespace Go.Proofs.Ytlokeimfmbgigaa.Pl

/-- A chain of just m bounds. -/
inductive ChN (E : List Bd) : Nat → Nat → Nat → Int → Prop
  | nil (i : Nat) : ChN E 0 i i 0
  | snoc {m i f t : Nat} {s w : Int} : ChN E m i f s → (f, t, w) ∈ E → ChN E (m + 1) i t (s + w)
theorem ChN.ch {E : List Bd} {m i k : Nat} {s : Int} (h : ChN E m i k s) : Ch E i k s := by
  induction h with
  | nil i => exact .nil i
  | snoc _ he ih => exact ih.app (Ch.one he)
theorem ChN.cons {E : List Bd} {m i j k : Nat} {s w : Int} (he : (i, j, w) ∈ E) (h : ChN E m j k s) : ChN E (m + 1) i k (w + s) := by
  induction h with
  | nil j =>
    have := ChN.snoc (.nil i) he
    rwa [Int.zero_add, ← Int.add_zero w] at this
  | snoc _ he' ih =>
    rw [← Int.add_assoc]
    exact .snoc (ih he) he'
theorem Ch.chN {E : List Bd} {i k : Nat} {s : Int} (h : Ch E i k s) : ∃ m, ChN E m i k s := by
  induction h with
  | nil i => exact ⟨0, .nil i⟩
  | cons he _ ih =>
    obtain ⟨m, hm⟩ := ih
    exact ⟨m + 1, hm.cons he⟩
/-- One bound more: one bound of the list. -/
def addW (L N : Tb) (e : Bd) : Tb := fun i k => if k = e.2.1 then minO (N i k) (plusO (L i e.1) (some e.2.2)) else N i k
def stepT (E : List Bd) (L : Tb) : Tb := E.foldl (addW L) (fun _ _ => none)
/-- The tables that walks yields. -/
def walkT (E : List Bd) : Nat → Tb
  | 0 => noneT
  | m + 1 => stepT E (walkT E m)
theorem addW_down (L N : Tb) (e : Bd) : Down N (addW L N e) := by
  intro a b s h
  unfold addW
  by_cases hb : b = e.2.1
  · rw [if_pos hb]; exact h.min_l
  · rw [if_neg hb]; exact h
theorem foldW_down (L : Tb) (E : List Bd) : ∀ N, Down N (E.foldl (addW L) N) := by
  induction E with
  | nil => intro N; exact Down.refl N
  | cons e E ih => intro N; exact (addW_down L N e).trans (ih _)
theorem foldW_does (L : Tb) (E : List Bd) : ∀ N, ∀ e ∈ E, ∀ i s, LeO (L i e.1) s → LeO (E.foldl (addW L) N i e.2.1) (s + e.2.2) := by
  induction E with
  | nil => intro N e he; cases he
  | cons e E ih =>
    intro N e' he i s h
    rcases List.mem_cons.1 he with rfl | he
    · refine foldW_down L E _ _ _ _ ?_
      unfold addW
      rw [if_pos rfl]
      exact LeO.min_r (LeO.plus h ⟨_, rfl, Int.le_refl _⟩)
    · exact ih _ e' he i s h
theorem foldW_sound (L : Tb) (P : Nat → Nat → Int → Prop) (E : List Bd) : ∀ N : Tb, (∀ a b x, N a b = some x → P a b x) → (∀ e ∈ E, ∀ i y, L i e.1 = some y → P i e.2.1 (y + e.2.2)) → ∀ a b x, E.foldl (addW L) N a b = some x → P a b x := by
  induction E with
  | nil => intro N h _; exact h
  | cons e E ih =>
    intro N h he
    refine ih _ (fun a b x hx => ?_) (fun e' h' => he e' (List.mem_cons_of_mem _ h'))
    unfold addW at hx
    by_cases hb : b = e.2.1
    · rw [if_pos hb] at hx
      subst hb
      rcases minO_cases (N a e.2.1) (plusO (L a e.1) (some e.2.2)) with e1 | e1
      · rw [e1] at hx; exact h _ _ _ hx
      · rw [e1] at hx
        cases hl : L a e.1 with
        | none => rw [hl] at hx; simp [plusO] at hx
        | some y =>
          rw [hl] at hx
          simp only [plusO, Option.some.injEq] at hx
          subst hx
          exact he e (List.mem_cons_self ..) a y hl
    · rw [if_neg hb] at hx; exact h _ _ _ hx
theorem walk_sound (E : List Bd) (m : Nat) : ∀ i k x, walkT E m i k = some x → ChN E m i k x := by
  induction m with
  | zero =>
    intro i k x hx
    simp only [walkT, noneT] at hx
    split at hx
    · rename_i e; subst e; cases hx; exact .nil i
    · cases hx
  | succ m ih =>
    intro i k x hx
    exact foldW_sound (walkT E m) (fun i k x => ChN E (m + 1) i k x) E _ (fun a b x h => by cases h) (fun e he i y hy => .snoc (ih i e.1 y hy) he) i k x hx
theorem walk_least (E : List Bd) {m i k : Nat} {s : Int} (h : ChN E m i k s) : LeO (walkT E m i k) s := by
  induction h with
  | nil i => exact ⟨0, by simp [walkT, noneT], Int.le_refl _⟩
  | @snoc m i f t s w _ he ih => exact foldW_does (walkT E m) E _ (f, t, w) he i s ih
/-- Where a distance is at most so much, a chain of some number of bounds shows it. -/
theorem walk_reaches {E : List Bd} {n : Nat} {D : Tb} (h : Least E n D) {i k : Nat} {d most : Int} (hd : D i k = some d) (hm : d ≤ most) : ∃ m, LeO (walkT E m i k) most := by
  obtain ⟨m, hc⟩ := (h.1 i k d hd).chN
  exact ⟨m, (walk_least E hc).mono hm⟩
end Go.Proofs.Ytlokeimfmbgigaa.Pl
