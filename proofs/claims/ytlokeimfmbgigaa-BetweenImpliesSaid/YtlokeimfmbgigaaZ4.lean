/- What chain and walks of package between return. -/
import Derived.Test.YtlokeimfmbgigaaZ1
import Derived.Test.YtlokeimfmbgigaaZ3
import Derived.BigRegion
import Derived.RegionTactic
import Derived.RangeFuncNested
import Derived.RangeFuncBound
import Derived.Deep.Draws
import Derived.Sort.QuietIn
import Derived.OwnWalkIn
import Derived.RangeFuncCalls
import Derived.RangeFuncLeaves
import Derived.Shelf.Abstract
import Derived.Shelf.RegionOpen
import Derived.WalkKit
import Derived.TacticsInMore
import Derived.LoopNIn
import Derived.LoopIn
import Derived.Laws.EntriesVeiled
import Derived.Sort.LoopGhostIn
import Derived.Sort.CutIn
import Derived.StillTailTactics
set_option linter.unusedVariables false
set_option linter.unusedSimpArgs false
set_option linter.unusedVariables false
set_option linter.unusedSimpArgs false
namespace Go.Proofs.Ytlokeimfmbgigaa.Pl
open Go.Proofs.YtlokeimfmbgigaaW.PrintWords
open Go.Proofs.Ytlokeimfmbgigaa.Ref Go.Proofs.Ytlokeimfmbgigaa.Bk

theorem ChN.bd {E : List Bd} (hE : ∀ e ∈ E, -1000000000 ≤ e.2.2 ∧ e.2.2 ≤ 1000000000) {m i k : Nat} {s : Int} (h : ChN E m i k s) : -(1000000000 * (m : Int)) ≤ s ∧ s ≤ 1000000000 * (m : Int) := by
  induction h with
  | nil i => omega
  | snoc _ he ih => have := hE _ he; simp only at this; omega
theorem walk_bd {E : List Bd} (hE : ∀ e ∈ E, -1000000000 ≤ e.2.2 ∧ e.2.2 ≤ 1000000000) (m i k : Nat) : BdO (1000000000 * (m : Int)) (walkT E m i k) := fun x hx => (walk_sound E m i k x hx).bd hE
/-- The same over numbers. -/
def addWI (L N : Ti) (e : Bd) : Ti := fun i k => if k = e.2.1 then min (N i k) (plusI (L i e.1) e.2.2) else N i k
def stepI (E : List Bd) (L : Ti) : Ti := E.foldl (addWI L) (fun _ _ => Far)
def walkI (E : List Bd) : Nat → Ti
  | 0 => noneI
  | m + 1 => stepI E (walkI E m)
theorem foldW_tie {B : Int} (hB : 0 ≤ B) (hB2 : B + 1000000000 < Far) (L : Tb) (hL : ∀ i k, BdO B (L i k)) (E : List Bd) : ∀ N : Tb, (∀ e ∈ E, -1000000000 ≤ e.2.2 ∧ e.2.2 ≤ 1000000000) → (∀ i k, BdO (B + 1000000000) (N i k)) → encT (E.foldl (addW L) N) = E.foldl (addWI (encT L)) (encT N) := by
  induction E with
  | nil => intro N _ _; rfl
  | cons e E ih =>
    intro N hE hN
    have he := hE e (List.mem_cons_self ..)
    have hb : BdO 1000000000 (some e.2.2) := fun x hx => by cases hx; exact he
    have hp : ∀ i, BdO (B + 1000000000) (plusO (L i e.1) (some e.2.2)) := fun i => BdO.plus (hL i e.1) hb
    have hadd : encT (addW L N e) = addWI (encT L) (encT N) e := by
      funext i k
      show encF (addW L N e i k) = addWI (encT L) (encT N) e i k
      unfold addW addWI
      by_cases hk : k = e.2.1
      · rw [if_pos hk, if_pos hk, encF_min (B := B + 1000000000) (by omega) (hN i k) (hp i), encF_plus (B := B + 1000000000) (by omega) ((hL i e.1).mono (by omega)) (hb.mono (by omega))]
        rfl
      · rw [if_neg hk, if_neg hk]
        rfl
    simp only [List.foldl_cons]
    rw [ih (addW L N e) (fun x hx => hE x (List.mem_cons_of_mem _ hx)) (fun i k => by
      unfold addW
      split
      · exact BdO.min (hN i k) (hp i)
      · exact hN i k), hadd]
theorem walk_tie {E : List Bd} (hE : ∀ e ∈ E, -1000000000 ≤ e.2.2 ∧ e.2.2 ≤ 1000000000) (m : Nat) (hm : m ≤ 100) : encT (walkT E m) = walkI E m := by
  induction m with
  | zero => exact none_tie
  | succ m ih =>
    simp only [walkT, walkI, stepT, stepI]
    rw [foldW_tie (B := 1000000000 * (m : Int)) (by omega) (by unfold Far; omega) (walkT E m) (walk_bd hE m) E _ hE (fun i k => BdO.none _), ih (by omega)]
    rfl
theorem walk_small {E : List Bd} (hE : ∀ e ∈ E, -1000000000 ≤ e.2.2 ∧ e.2.2 ≤ 1000000000) (m : Nat) (hm : m ≤ 100) (i k : Nat) : SmF (walkI E m i k) := by
  rw [← walk_tie hE m hm]
  exact smF_enc ((walk_bd hE m i k).mono (by omega))
/-- A number in the table is at most s exactly if the least sum is. -/
theorem walkI_le {E : List Bd} (hE : ∀ e ∈ E, -1000000000 ≤ e.2.2 ∧ e.2.2 ≤ 1000000000) {m : Nat} (hm : m ≤ 100) {i k : Nat} {s : Int} (hs : s < Far) : walkI E m i k ≤ s ↔ LeO (walkT E m i k) s := by
  rw [← walk_tie hE m hm]
  show encF (walkT E m i k) ≤ s ↔ _
  cases h : walkT E m i k with
  | none => exact ⟨fun hh => by simp only [encF, Option.getD_none] at hh; omega, fun ⟨x, e, _⟩ => by cases e⟩
  | some y => exact ⟨fun hh => ⟨y, rfl, hh⟩, fun ⟨x, e, hx⟩ => by cases e; exact hx⟩
/-- A bound and a number in the table. -/
theorem plusW_le {E : List Bd} (hE : ∀ e ∈ E, -1000000000 ≤ e.2.2 ∧ e.2.2 ≤ 1000000000) {m : Nat} (hm : m ≤ 100) {i k : Nat} {w s : Int} (hw : -1000000000 ≤ w ∧ w ≤ 1000000000) (hs : s < Far) : plusI w (walkI E m i k) ≤ s ↔ LeO (walkT E m i k) (s - w) := by
  rw [← walk_tie hE m hm]
  show plusI w (encF (walkT E m i k)) ≤ s ↔ _
  have hb := walk_bd hE m i k
  unfold plusI
  rw [if_neg (by unfold Far; omega)]
  cases h : walkT E m i k with
  | none =>
    rw [if_pos (show encF none = Far from rfl)]
    exact ⟨fun hh => absurd hh (by omega), fun ⟨x, e, _⟩ => by cases e⟩
  | some y =>
    have := hb y h
    rw [if_neg (show ¬ encF (some y) = Far by simp only [encF, Option.getD_some]; unfold Far; omega)]
    exact ⟨fun hh => ⟨y, rfl, by simp only [encF, Option.getD_some] at hh; omega⟩, fun ⟨x, e, hx⟩ => by cases e; simp only [encF, Option.getD_some]; omega⟩
theorem ChN.uncons {E : List Bd} {m i k : Nat} {s : Int} (h : ChN E m i k s) : m = 0 ∧ i = k ∧ s = 0 ∨ ∃ m' j w s', m = m' + 1 ∧ (i, j, w) ∈ E ∧ ChN E m' j k s' ∧ s = w + s' := by
  induction h with
  | nil i => exact .inl ⟨rfl, rfl, rfl⟩
  | @snoc m i f t s w hc he ih =>
    right
    rcases ih with ⟨rfl, rfl, rfl⟩ | ⟨m', j, w', s', rfl, he', hc', rfl⟩
    · exact ⟨0, t, w, 0, rfl, he, .nil t, by omega⟩
    · exact ⟨m' + 1, j, w', s' + w, rfl, he', .snoc hc' he, by omega⟩
theorem ChN.succ {E : List Bd} {m i k : Nat} {s : Int} (h : ChN E (m + 1) i k s) : ∃ j w s', (i, j, w) ∈ E ∧ ChN E m j k s' ∧ s = w + s' := by
  rcases h.uncons with ⟨h0, _⟩ | ⟨m', j, w, s', e, h1, h2, h3⟩
  · omega
  · obtain rfl : m = m' := by omega
    exact ⟨j, w, s', h1, h2, h3⟩
/-- Which bound may come next. -/
theorem walk_step {E : List Bd} {m i t : Nat} {s : Int} : LeO (walkT E (m + 1) i t) s ↔ ∃ j w, (i, j, w) ∈ E ∧ LeO (walkT E m j t) (s - w) := by
  constructor
  · rintro ⟨x, hx, hs⟩
    obtain ⟨j, w, s', h1, h2, rfl⟩ := (walk_sound E (m + 1) i t x hx).succ
    exact ⟨j, w, h1, (walk_least E h2).mono (by omega)⟩
  · rintro ⟨j, w, h1, y, hy, hs⟩
    exact (walk_least E (ChN.cons h1 (walk_sound E m j t y hy))).mono (by omega)
end Go.Proofs.Ytlokeimfmbgigaa.Pl

set_option linter.unusedVariables false
set_option linter.unusedSimpArgs false
namespace Go.Proofs.Ytlokeimfmbgigaa.Pl

theorem pigeon (n : Nat) : ∀ (m : Nat) (f : Nat → Nat), (∀ p, p < m → f p < n) → n < m → ∃ p q, p < q ∧ q < m ∧ f p = f q := by
  induction n with
  | zero => intro m f h hm; exact absurd (h 0 hm) (Nat.not_lt_zero _)
  | succ n ih =>
    intro m f h hm
    by_cases hex : ∃ p, p < m - 1 ∧ f p = f (m - 1)
    · obtain ⟨p, hp, e⟩ := hex
      exact ⟨p, m - 1, hp, by omega, e⟩
    · have hne : ∀ p, p < m - 1 → f p ≠ f (m - 1) := fun p hp e => hex ⟨p, hp, e⟩
      obtain ⟨p, q, hpq, hq, e⟩ := ih (m - 1) (fun p => if f (m - 1) < f p then f p - 1 else f p) (fun p hp => by
        have h1 := h p (by omega)
        have h2 := hne p hp
        have h3 := h (m - 1) (by omega)
        try simp only
        split <;> omega) (by omega)
      have h1 := hne p (by omega)
      have h2 := hne q hq
      refine ⟨p, q, hpq, by omega, ?_⟩
      try simp only at e
      split at e <;> split at e <;> omega
/-- A chain as a list of bounds. -/
def Path (E : List Bd) : Nat → List Bd → Nat → Prop
  | i, [], k => i = k
  | i, e :: es, k => e ∈ E ∧ e.1 = i ∧ Path E e.2.1 es k
def sumW : List Bd → Int
  | [] => 0
  | e :: es => e.2.2 + sumW es
theorem sumW_app (A B : List Bd) : sumW (A ++ B) = sumW A + sumW B := by
  induction A with
  | nil => simp [sumW]
  | cons e A ih => simp only [List.cons_append, sumW, ih]; omega
theorem path_app {E : List Bd} (A B : List Bd) : ∀ {i k : Nat}, Path E i (A ++ B) k ↔ ∃ j, Path E i A j ∧ Path E j B k := by
  induction A with
  | nil => intro i k; exact ⟨fun h => ⟨i, rfl, h⟩, fun ⟨j, h1, h2⟩ => by rw [show i = j from h1]; exact h2⟩
  | cons e A ih =>
    intro i k
    simp only [List.cons_append, Path]
    constructor
    · rintro ⟨h1, h2, h3⟩
      obtain ⟨j, h4, h5⟩ := ih.1 h3
      exact ⟨j, ⟨h1, h2, h4⟩, h5⟩
    · rintro ⟨j, ⟨h1, h2, h4⟩, h5⟩
      exact ⟨h1, h2, ih.2 ⟨j, h4, h5⟩⟩
theorem Path.chN {E : List Bd} {es : List Bd} : ∀ {i k : Nat}, Path E i es k → ChN E es.length i k (sumW es) := by
  induction es with
  | nil => intro i k h; rw [show i = k from h]; exact .nil k
  | cons e es ih =>
    rintro i k ⟨h1, h2, h3⟩
    have := ChN.cons (i := i) (j := e.2.1) (w := e.2.2) (by rw [← h2]; exact h1) (ih h3)
    exact this
theorem ChN.path {E : List Bd} {m i k : Nat} {s : Int} (h : ChN E m i k s) : ∃ es : List Bd, es.length = m ∧ Path E i es k ∧ sumW es = s := by
  induction h with
  | nil i => exact ⟨[], rfl, rfl, rfl⟩
  | @snoc m i f t s w _ he ih =>
    obtain ⟨es, h1, h2, h3⟩ := ih
    refine ⟨es ++ [(f, t, w)], by simp [h1], (path_app _ _).2 ⟨f, h2, he, rfl, rfl⟩, ?_⟩
    rw [sumW_app, h3]
    simp [sumW]
theorem path_mem {E : List Bd} {es : List Bd} : ∀ {i k : Nat}, Path E i es k → ∀ e ∈ es, e ∈ E := by
  induction es with
  | nil => intro i k _ e he; cases he
  | cons e es ih =>
    rintro i k ⟨h1, _, h3⟩ e' he
    rcases List.mem_cons.1 he with rfl | he
    · exact h1
    · exact ih h3 e' he
theorem path_head {E : List Bd} {es : List Bd} {i k : Nat} (h : Path E i es k) {e : Bd} {r : List Bd} (he : es = e :: r) : e.1 = i := by
  subst he
  exact h.2.1
/-- A long chain bears a closed one. -/
theorem ChN.cut {E : List Bd} {n : Nat} (f : Bd → Nat) (hf : ∀ e ∈ E, f e < n) (hs : ∀ e ∈ E, ∀ e' ∈ E, f e = f e' → e.1 = e'.1) {m i k : Nat} {s : Int} (h : ChN E m i k s) (hm : n < m) :
    ∃ a b c j s1 s2 s3, 0 < b ∧ 0 < c ∧ a + b + c = m ∧ ChN E a i j s1 ∧ ChN E b j j s2 ∧ ChN E c j k s3 ∧ s1 + s2 + s3 = s := by
  obtain ⟨es, h1, h2, h3⟩ := h.path
  have hmem := path_mem h2
  obtain ⟨p, q, hpq, hq, e⟩ := pigeon n m (fun p => f (es.getD p (0, 0, 0))) (fun p hp => by
    have : es.getD p (0, 0, 0) ∈ es := by rw [List.getD_eq_getElem?_getD, List.getElem?_eq_getElem (by omega)]; exact List.getElem_mem _
    exact hf _ (hmem _ this)) hm
  have hp' : p < es.length := by omega
  have hq' : q < es.length := by omega
  have e1 : es.getD p (0, 0, 0) = es[p] := by rw [List.getD_eq_getElem?_getD, List.getElem?_eq_getElem hp']; rfl
  have e2 : es.getD q (0, 0, 0) = es[q] := by rw [List.getD_eq_getElem?_getD, List.getElem?_eq_getElem hq']; rfl
  have hsrc : es[p].1 = es[q].1 := hs _ (hmem _ (List.getElem_mem _)) _ (hmem _ (List.getElem_mem _)) (by rw [← e1, ← e2]; exact e)
  have hA : es = es.take p ++ (es.drop p).take (q - p) ++ es.drop q := by
    have h5 : es.drop q = (es.drop p).drop (q - p) := by rw [List.drop_drop]; congr 1; omega
    rw [h5, List.append_assoc, List.take_append_drop, List.take_append_drop]
  rw [hA] at h2 h3
  obtain ⟨v2, h6, h7⟩ := (path_app _ _).1 h2
  obtain ⟨v1, h8, h9⟩ := (path_app _ _).1 h6
  have hv2 : es[q].1 = v2 := path_head h7 (List.drop_eq_getElem_cons hq')
  have hv1 : es[p].1 = v1 := path_head h9 (by
    rw [List.drop_eq_getElem_cons hp', show q - p = (q - p - 1) + 1 by omega, List.take_succ_cons])
  have hv : v1 = v2 := by rw [← hv1, ← hv2, hsrc]
  subst hv
  rw [sumW_app, sumW_app] at h3
  have l1 : (es.take p).length = p := by simp; omega
  have l2 : ((es.drop p).take (q - p)).length = q - p := by simp; omega
  have l3 : (es.drop q).length = m - q := by simp; omega
  have c1 := h8.chN
  have c2 := h9.chN
  have c3 := h7.chN
  rw [l1] at c1
  rw [l2] at c2
  rw [l3] at c3
  exact ⟨p, q - p, m - q, v1, _, _, _, by omega, by omega, by omega, c1, c2, c3, h3⟩
theorem ChN.app {E : List Bd} {a c i j k : Nat} {s t : Int} (h : ChN E a i j s) (h2 : ChN E c j k t) : ChN E (a + c) i k (s + t) := by
  induction h2 with
  | nil i => rw [Nat.add_zero, Int.add_zero]; exact h
  | @snoc m i f t' s' w _ he ih =>
    rw [← Int.add_assoc]
    exact .snoc (ih h) he
theorem ChN.lt {E : List Bd} {n : Nat} (hE : In n E) {m i k : Nat} {s : Int} (h : ChN E m i k s) (hm : 0 < m) : i < n := by
  cases m with
  | zero => omega
  | succ m =>
    obtain ⟨j, w, s', h1, _, _⟩ := h.succ
    exact (hE _ h1).1
/-- Where there is no contradiction, chains of at most as many bounds as there are variables suffice. -/
theorem ChN.short {E : List Bd} {n : Nat} (hE : In n E) (hf : Fine n E) (m : Nat) : ∀ {i k : Nat} {s : Int}, ChN E m i k s → ∃ m' s', m' ≤ n ∧ m' ≤ m ∧ s' ≤ s ∧ ChN E m' i k s' := by
  induction m using Nat.strongRecOn with
  | ind m ih =>
    intro i k s h
    by_cases hm : m ≤ n
    · exact ⟨m, s, hm, Nat.le_refl _, Int.le_refl _, h⟩
    · obtain ⟨a, b, c, j, s1, s2, s3, hb, hc, habc, c1, c2, c3, hs⟩ := h.cut (fun e => e.1) (fun e he => (hE e he).1) (fun e _ e' _ h => h) (by omega)
      have h2 : 0 ≤ s2 := hf j s2 (c2.lt hE hb) c2.ch
      obtain ⟨m', s', h3, h4, h5, h6⟩ := ih (a + c) (by omega) (c1.app c3)
      exact ⟨m', s', h3, by omega, by omega, h6⟩
/-- Where there is a contradiction, there is one of few bounds. -/
theorem ChN.bad {E : List Bd} {n : Nat} (f : Bd → Nat) (hf : ∀ e ∈ E, f e < n) (hs : ∀ e ∈ E, ∀ e' ∈ E, f e = f e' → e.1 = e'.1) (m : Nat) : ∀ {i : Nat} {s : Int}, ChN E m i i s → s < 0 → ∃ m' j s', 0 < m' ∧ m' ≤ n ∧ m' ≤ m ∧ s' < 0 ∧ ChN E m' j j s' := by
  induction m using Nat.strongRecOn with
  | ind m ih =>
    intro i s h hneg
    by_cases hm : m ≤ n
    · refine ⟨m, i, s, ?_, hm, Nat.le_refl _, hneg, h⟩
      rcases h.uncons with ⟨_, _, h0⟩ | ⟨m', _, _, _, h0, _⟩ <;> omega
    · obtain ⟨a, b, c, j, s1, s2, s3, hb, hc, habc, c1, c2, c3, hsum⟩ := h.cut f hf hs (by omega)
      by_cases h2 : s2 < 0
      · obtain ⟨m', j', s', h3, h4, h5, h6, h7⟩ := ih b (by omega) c2 h2
        exact ⟨m', j', s', h3, h4, by omega, h6, h7⟩
      · obtain ⟨m', j', s', h3, h4, h5, h6, h7⟩ := ih (a + c) (by omega) (c1.app c3) (by omega)
        exact ⟨m', j', s', h3, h4, by omega, h6, h7⟩
theorem not_fine {E : List Bd} {n : Nat} (hE : In n E) : ¬ Fine n E ↔ ∃ m j s, 0 < m ∧ m ≤ n ∧ s < 0 ∧ ChN E m j j s := by
  constructor
  · intro h
    unfold Fine at h
    simp only [Classical.not_forall] at h
    obtain ⟨i, s, hi, hc, hs⟩ := h
    obtain ⟨m, hm⟩ := hc.chN
    obtain ⟨m', j, s', h1, h2, _, h3, h4⟩ := ChN.bad (n := n) (fun e => e.1) (fun e he => (hE e he).1) (fun e _ e' _ h => h) m hm (by omega)
    exact ⟨m', j, s', h1, h2, h3, h4⟩
  · rintro ⟨m, j, s, h1, _, h3, h4⟩ hf
    have := hf j s (h4.lt hE h1) h4.ch
    omega
/-- A contradiction of bounds of which there are few. -/
theorem bad_few {E : List Bd} {m i : Nat} {s : Int} (h : ChN E m i i s) (hs : s < 0) : ∃ m' j s', 0 < m' ∧ m' ≤ E.length ∧ s' < 0 ∧ ChN E m' j j s' := by
  obtain ⟨m', j, s', h1, h2, _, h3, h4⟩ := ChN.bad (n := E.length) (fun e => E.idxOf e) (fun e he => List.idxOf_lt_length_iff.2 he) (fun e he e' he' h => by
    have h1 := List.getElem_idxOf (List.idxOf_lt_length_iff.2 he)
    have h2 := List.getElem_idxOf (List.idxOf_lt_length_iff.2 he')
    rw [← h1, ← h2]
    congr 1
    simp only [h]) m h hs
  exact ⟨m', j, s', h1, h2, h3, h4⟩
/-- The sub-list's chains are the list's. -/
theorem ChN.sub {E E' : List Bd} (h : ∀ e ∈ E, e ∈ E') {m i k : Nat} {s : Int} (hc : ChN E m i k s) : ChN E' m i k s := by
  induction hc with
  | nil i => exact .nil i
  | snoc _ he ih => exact .snoc ih (h _ he)
end Go.Proofs.Ytlokeimfmbgigaa.Pl

set_option linter.unusedVariables false
namespace Go.Proofs.Ytlokeimfmbgigaa.Pl
open Go.Proofs.Ytlokeimfmbgigaa.Ref Go.Proofs.Ytlokeimfmbgigaa.Bk
/-- May a chain to t of m + 1 bounds from i with a sum of at most s begin with this bound? -/
def nextB (l : List S35) (m i t : Nat) (s : Int) (x : S35) : Bool := (x.f0 == (i : Int)) && decide (plusI x.f2 (walkI (bds l) m x.f1.toNat t) ≤ s)
/-- The first chain. -/
def chainK (l : List S35) (t : Nat) : Nat → Nat → Int → List Nat
  | 0, _, _ => []
  | m + 1, i, s => l.findIdx (nextB l m i t s) :: chainK l t m (l.getD (l.findIdx (nextB l m i t s)) z35).f1.toNat (s - (l.getD (l.findIdx (nextB l m i t s)) z35).f2)
end Go.Proofs.Ytlokeimfmbgigaa.Pl
namespace Go.Proofs.Ytlokeimfmbgigaa.Bk
open Go.RowKit Go.Shelf Go.Proofs.YtlokeimfmbgigaaW.PrintWords Go.Proofs.YtlokeimfmbgigaaW.PrintLast Go.Proofs.YtlokeimfmbgigaaW.PrintMore
open Go.Proofs.Ytlokeimfmbgigaa.Ref Go.Proofs.Ytlokeimfmbgigaa.Pl Go.Proofs.Ytlokeimfmbgigaa.Qs

/-- The first cnt tables of chains, their slices in the row gw. -/
def Tabs (W : World) (gw cnt n : Nat) (l : List S35) : Prop :=
  ∃ cur : Array Value, W.heap[gw]? = some (.cells cur 38 (0, 0)) ∧ ∀ m, m < cnt → ∃ g rows caps, cur[m]? = some (.slice (some ⟨g, 0, none⟩) n n) ∧ Mat W 0 g n rows caps (walkI (bds l) m)
theorem Tabs.below {W W' : World} {gw cnt n : Nat} {l : List S35} (h : Tabs W gw cnt n l) (hb : Below W.heap.size W W') : Tabs W' gw cnt n l := by
  obtain ⟨cur, h1, h2⟩ := h
  exact ⟨cur, blk_below h1 hb, fun m hm => by obtain ⟨g, rows, caps, h3, h4⟩ := h2 m hm; exact ⟨g, rows, caps, h3, h4.below hb⟩⟩
theorem Tabs.at {W : World} {gw cnt n : Nat} {l : List S35} (h : Tabs W gw cnt n l) {m j t : Nat} (hm : m < cnt) (hj : j < n) (ht : t < n) :
    ∃ g r c, W.cell? ⟨gw, m, none⟩ = some (.slice (some ⟨g, 0, none⟩) n n) ∧ W.cell? ⟨g, j, none⟩ = some (.slice (some ⟨r, 0, none⟩) n c) ∧ W.cell? ⟨r, t, none⟩ = some (.int .i64 (walkI (bds l) m j t)) := by
  obtain ⟨cur, h1, h2⟩ := h
  obtain ⟨g, rows, caps, h3, h4⟩ := h2 m hm
  exact ⟨g, rows j, caps j, (blk_cell h1 m).trans h3, h4.row hj, h4.cell hj ht⟩
set_option maxHeartbeats 2000000 in
theorem chain1_calls (i j : Nat) (q : Int) (n : Nat) (l : List S35) (hv : validB n l = true) (hq : -1000000000 ≤ q ∧ q ≤ 1000000000) (hi : i < n) (hj : j < n) (gw cnt cw m fr t : Nat) (s : Int) (hm : m < cnt) (hc : cnt ≤ 100) (ht : t < n) (hfr : fr < n) (bF bW bT bM bS : Nat) (w : World)
    (kF : w.cell? ⟨bF, 0, none⟩ = some (.int .i64 fr)) (kW : w.cell? ⟨bW, 0, none⟩ = some (.slice (some ⟨gw, 0, none⟩) cnt cw)) (kM : w.cell? ⟨bM, 0, none⟩ = some (.int .i64 ((m : Int) + 1))) (kT : w.cell? ⟨bT, 0, none⟩ = some (.int .i64 t)) (kS : w.cell? ⟨bS, 0, none⟩ = some (.int .i64 s)) (hT : Tabs w gw cnt n l) :
    Calls Try.prog 63 #[aggB ⟨i, j, q⟩, .pointer (some ⟨bF, 0, none⟩), .pointer (some ⟨bW, 0, none⟩), .pointer (some ⟨bM, 0, none⟩), .pointer (some ⟨bT, 0, none⟩), .pointer (some ⟨bS, 0, none⟩)] w
      fun e w' => e = .returned (.bool (nextB l m fr t s ⟨i, j, q⟩)) ∧ Below w.heap.size w w' := by
  have hXb := (Below.refl _ w).alloc (Nat.le_refl _) (.cells #[.int .i64 (i : Int), .int .i64 (j : Int), .int .i64 q] 35)
  have hXn := blk_new w (.cells #[.int .i64 (i : Int), .int .i64 (j : Int), .int .i64 q] 35)
  obtain ⟨g, r, c, t0, t1, t2⟩ := hT.at hm hj ht
  have e1 := pw_cell_below hXb kF
  have e2 := pw_cell_below hXb kW
  have e3 := pw_cell_below hXb kM
  have e4 := pw_cell_below hXb kT
  have e5 := pw_cell_below hXb kS
  have u0 := pw_cell_below hXb t0
  have u1 := pw_cell_below hXb t1
  have u2 := pw_cell_below hXb t2
  have x0 := (blk_cell hXn 0).trans (show _ = some (Value.int .i64 (i : Int)) from rfl)
  have x1 := (blk_cell hXn 1).trans (show _ = some (Value.int .i64 (j : Int)) from rfl)
  have x2 := (blk_cell hXn 2).trans (show _ = some (Value.int .i64 q) from rfl)
  have q1 := eq_true (show (m : Int) < (cnt : Int) by omega)
  have q2 := eq_true (show (0 : Int) ≤ (m : Int) by omega)
  have q3 := eq_true (show (j : Int) < (n : Int) by omega)
  have q4 := eq_true (show (0 : Int) ≤ (j : Int) by omega)
  have q5 := eq_true (show (t : Int) < (n : Int) by omega)
  have q6 := eq_true (show (0 : Int) ≤ (t : Int) by omega)
  have HSM := Aside0.mk (walk_small (bds_small hv) m (by omega) j t)
  have HQ := Aside0.mk (show SmF q from .inr (by omega))
  have HB := Aside0.mk hXb
  have hres : nextB l m fr t s ⟨i, j, q⟩ = (((i : Int) == (fr : Int)) && decide (plusI q (walkI (bds l) m j t) ≤ s)) := by unfold nextB; rw [Int.toNat_natCast]
  have HRES := Aside0.mk hres
  generalize walkI (bds l) m j t = tb at u2 HSM HRES
  have hw : wrap64 (m : Int) = (m : Int) := wrapI (by omega)
  by_cases he : (i : Int) = (fr : Int)
  · have heb : ((i : Int) == (fr : Int)) = true := beq_iff_eq.mpr he
    have HE := Aside0.mk (show nextB l m fr t s ⟨i, j, q⟩ = decide (plusI q tb ≤ s) by rw [HRES.out, heb, Bool.true_and])
    clear kF kW kM kT kS t0 t1 t2 hT hXb hXn hv hq hi hj hm hc ht hfr he hres HRES
    unfold aggB
    go_enter Try.func63, Try.ntmps63
    go_upto_region 1 with (fail)
    generalize w.alloc (.cells #[.int .i64 (i : Int), .int .i64 (j : Int), .int .i64 q] 35) = X at *
    replace e1 := sub_cell e1
    replace e2 := sub_cell e2
    replace e3 := sub_cell e3
    replace e4 := sub_cell e4
    replace e5 := sub_cell e5
    replace u0 := sub_cell u0
    replace u1 := sub_cell u1
    replace u2 := sub_cell u2
    replace x0 := sub_cell x0
    replace x1 := sub_cell x1
    replace x2 := sub_cell x2
    refine wp_region_sub (by kernel_rfl) (by kernel_rfl) ?_
    repeat (go_big_quiet_step (first | (go_at_call 50; exact Calls.sub_of_same (plus_calls q tb HQ.out HSM.out _))))
    refine wpQuiet_nil ?_
    refine sub_intro fun w1 h => ?_
    go_wp2_with fail
    go_ret
    exact ⟨by rw [HE.out]; rfl, below_step HB.out h⟩
  · have heb : ((i : Int) == (fr : Int)) = false := beq_eq_false_iff_ne.mpr he
    have HE := Aside0.mk (show nextB l m fr t s ⟨i, j, q⟩ = false by rw [HRES.out, heb, Bool.false_and])
    clear kF kW kM kT kS t0 t1 t2 hT hXb hXn hv hq hi hj hm hc ht hfr he hres HRES
    unfold aggB
    go_enter Try.func63, Try.ntmps63
    go_upto_region 1 with (fail)
    generalize w.alloc (.cells #[.int .i64 (i : Int), .int .i64 (j : Int), .int .i64 q] 35) = X at *
    replace e1 := sub_cell e1
    replace x0 := sub_cell x0
    refine wp_region_sub (by kernel_rfl) (by kernel_rfl) ?_
    repeat (go_big_quiet_step (fail))
    refine wpQuiet_nil ?_
    refine sub_intro fun w1 h => ?_
    go_wp2_with fail
    go_ret
    exact ⟨by rw [HE.out]; rfl, below_step HB.out h⟩
end Go.Proofs.Ytlokeimfmbgigaa.Bk

set_option linter.unusedVariables false
namespace Go.Proofs.Ytlokeimfmbgigaa.Pl
open Go.Proofs.Ytlokeimfmbgigaa.Ref Go.Proofs.Ytlokeimfmbgigaa.Bk
/-- There is a bound to begin with. -/
theorem next_ex {n : Nat} {l : List S35} (hv : validB n l = true) {m i t : Nat} {s : Int} (hm : m + 1 ≤ 100) (hs : s < Far) (h : LeO (walkT (bds l) (m + 1) i t) s) : ∃ k, k < l.length ∧ nextB l m i t s (l.getD k z35) = true := by
  obtain ⟨j, w, he, hle⟩ := walk_step.1 h
  obtain ⟨x, hx, e⟩ := List.mem_map.1 he
  obtain ⟨k, hk, rfl⟩ := List.getElem_of_mem hx
  have hb := valid_at hv hk
  have hgd : l.getD k z35 = l[k] := by rw [List.getD_eq_getElem?_getD, List.getElem?_eq_getElem hk]; rfl
  rw [hgd] at hb
  refine ⟨k, hk, ?_⟩
  rw [hgd]
  simp only [Prod.mk.injEq] at e
  obtain ⟨e1, e2, e3⟩ := e
  unfold nextB
  rw [Bool.and_eq_true, decide_eq_true_eq, beq_iff_eq, plusW_le (bds_small hv) (by omega) hb.2.2 hs, e2, e3]
  exact ⟨by omega, hle⟩
theorem next_go {n : Nat} {l : List S35} (hv : validB n l = true) {m i t : Nat} {s : Int} (hm : m ≤ 100) (hs : s < Far) {k : Nat} (hk : k < l.length) (h : nextB l m i t s (l.getD k z35) = true) :
    (l.getD k z35).f0 = i ∧ LeO (walkT (bds l) m (l.getD k z35).f1.toNat t) (s - (l.getD k z35).f2) := by
  have hb := valid_at hv hk
  unfold nextB at h
  rw [Bool.and_eq_true, decide_eq_true_eq, beq_iff_eq, plusW_le (bds_small hv) (by omega) hb.2.2 hs] at h
  exact h
theorem findIdx_is {α : Type} {p : α → Bool} {l : List α} {d : α} {k : Nat} (hk : k < l.length) (h1 : p (l.getD k d) = true) (h2 : ∀ j, j < k → p (l.getD j d) = false) : l.findIdx p = k := by
  have hg : ∀ j, (hj : j < l.length) → l.getD j d = l[j] := fun j hj => by rw [List.getD_eq_getElem?_getD, List.getElem?_eq_getElem hj]; rfl
  rw [List.findIdx_eq hk]
  refine ⟨by rw [← hg k hk]; exact h1, fun j hj => ?_⟩
  rw [← hg j (by omega)]
  exact h2 j hj
end Go.Proofs.Ytlokeimfmbgigaa.Pl
namespace Go.Proofs.Ytlokeimfmbgigaa.Bk
open Go.RowKit Go.Shelf Go.Proofs.YtlokeimfmbgigaaW.PrintWords Go.Proofs.YtlokeimfmbgigaaW.PrintLast Go.Proofs.YtlokeimfmbgigaaW.PrintMore
open Go.Proofs.Ytlokeimfmbgigaa.Ref Go.Proofs.Ytlokeimfmbgigaa.Pl Go.Proofs.Ytlokeimfmbgigaa.Qs

/-- The boxes of chain. -/
def Bx (W : World) (S : Nat) (n : Nat) (sl sw : Value) (ii t mm : Nat) (ss : Int) : Prop :=
  W.heap[S]? = some (.cells #[.int .i64 n, sl] 30 (0, 0)) ∧ W.heap[S + 1]? = some (.cells #[sw] 66 (0, 0)) ∧ W.heap[S + 1 + 1]? = some (.cells #[.int .i64 ii] 3 (0, 0)) ∧ W.heap[S + 1 + 1 + 1]? = some (.cells #[.int .i64 t] 3 (0, 0)) ∧
    W.heap[S + 1 + 1 + 1 + 1]? = some (.cells #[.int .i64 mm] 3 (0, 0)) ∧ W.heap[S + 1 + 1 + 1 + 1 + 1]? = some (.cells #[.int .i64 ss] 3 (0, 0)) ∧ S + 6 ≤ W.heap.size
theorem Bx.below {W W' : World} {S n : Nat} {sl sw : Value} {ii t mm : Nat} {ss : Int} (h : Bx W S n sl sw ii t mm ss) (hb : Below W.heap.size W W') : Bx W' S n sl sw ii t mm ss :=
  ⟨blk_below h.1 hb, blk_below h.2.1 hb, blk_below h.2.2.1 hb, blk_below h.2.2.2.1 hb, blk_below h.2.2.2.2.1 hb, blk_below h.2.2.2.2.2.1 hb, Nat.le_trans h.2.2.2.2.2.2 hb.size⟩
theorem Bx.start (w : World) (n : Nat) (sl sw : Value) (ii t mm : Nat) (ss : Int) : Bx ((((((w.alloc (.cells #[.int .i64 n, sl] 30)).alloc (.cells #[sw] 66)).alloc (.cells #[.int .i64 ii] 3)).alloc (.cells #[.int .i64 t] 3)).alloc (.cells #[.int .i64 mm] 3)).alloc (.cells #[.int .i64 ss] 3)) w.heap.size n sl sw ii t mm ss ∧
    Below w.heap.size w ((((((w.alloc (.cells #[.int .i64 n, sl] 30)).alloc (.cells #[sw] 66)).alloc (.cells #[.int .i64 ii] 3)).alloc (.cells #[.int .i64 t] 3)).alloc (.cells #[.int .i64 mm] 3)).alloc (.cells #[.int .i64 ss] 3)) := by
  refine ⟨⟨blk_alloc (blk_alloc (blk_alloc (blk_alloc (blk_alloc (blk_new w _) _) _) _) _) _, ?_, ?_, ?_, ?_, ?_, by simp⟩, ?_⟩
  · have := blk_alloc (blk_alloc (blk_alloc (blk_alloc (blk_new (w.alloc (.cells #[.int .i64 n, sl] 30)) (.cells #[sw] 66)) (.cells #[.int .i64 ii] 3)) (.cells #[.int .i64 t] 3)) (.cells #[.int .i64 mm] 3)) (.cells #[.int .i64 ss] 3)
    simpa only [World.size_alloc] using this
  · have := blk_alloc (blk_alloc (blk_alloc (blk_new ((w.alloc (.cells #[.int .i64 n, sl] 30)).alloc (.cells #[sw] 66)) (.cells #[.int .i64 ii] 3)) (.cells #[.int .i64 t] 3)) (.cells #[.int .i64 mm] 3)) (.cells #[.int .i64 ss] 3)
    simpa only [World.size_alloc] using this
  · have := blk_alloc (blk_alloc (blk_new (((w.alloc (.cells #[.int .i64 n, sl] 30)).alloc (.cells #[sw] 66)).alloc (.cells #[.int .i64 ii] 3)) (.cells #[.int .i64 t] 3)) (.cells #[.int .i64 mm] 3)) (.cells #[.int .i64 ss] 3)
    simpa only [World.size_alloc] using this
  · have := blk_alloc (blk_new ((((w.alloc (.cells #[.int .i64 n, sl] 30)).alloc (.cells #[sw] 66)).alloc (.cells #[.int .i64 ii] 3)).alloc (.cells #[.int .i64 t] 3)) (.cells #[.int .i64 mm] 3)) (.cells #[.int .i64 ss] 3)
    simpa only [World.size_alloc] using this
  · have := blk_new (((((w.alloc (.cells #[.int .i64 n, sl] 30)).alloc (.cells #[sw] 66)).alloc (.cells #[.int .i64 ii] 3)).alloc (.cells #[.int .i64 t] 3)).alloc (.cells #[.int .i64 mm] 3)) (.cells #[.int .i64 ss] 3)
    simpa only [World.size_alloc] using this
  · exact below_alloc (below_alloc (below_alloc (below_alloc (below_alloc (below_alloc (Below.refl _ _) _) _) _) _) _) _
theorem Bx.step {W : World} {S n : Nat} {sl sw : Value} {ii t mm : Nat} {ss : Int} (h : Bx W S n sl sw ii t mm ss) (i2 : Nat) (s2 : Int) : Bx (((W.setCell ⟨S + 1 + 1, 0, none⟩ (.int .i64 i2)).setCell ⟨S + 1 + 1 + 1 + 1 + 1, 0, none⟩ (.int .i64 s2)).drew) S n sl sw i2 t mm s2 := by
  obtain ⟨h0, h1, h2, h3, h4, h5, h6⟩ := h
  have ne : ∀ {a b : Nat}, a ≠ b → a ≠ (⟨b, 0, none⟩ : Addr).block := fun h => h
  exact ⟨blk_drew (blk_far (blk_far h0 (ne (by omega)) _) (ne (by omega)) _), blk_drew (blk_far (blk_far h1 (ne (by omega)) _) (ne (by omega)) _), blk_drew (blk_far (blk_put h2 0 _ rfl) (ne (by omega)) _), blk_drew (blk_far (blk_far h3 (ne (by omega)) _) (ne (by omega)) _),
    blk_drew (blk_far (blk_far h4 (ne (by omega)) _) (ne (by omega)) _), blk_drew (blk_put (blk_far h5 (ne (by omega)) _) 0 _ rfl), by simpa [World.setCell] using h6⟩
theorem Bx.dec {W : World} {S n : Nat} {sl sw : Value} {ii t mm : Nat} {ss : Int} (h : Bx W S n sl sw ii t mm ss) (m2 : Nat) : Bx (W.setCell ⟨S + 1 + 1 + 1 + 1, 0, none⟩ (.int .i64 m2)) S n sl sw ii t m2 ss := by
  obtain ⟨h0, h1, h2, h3, h4, h5, h6⟩ := h
  have ne : ∀ {a b : Nat}, a ≠ b → a ≠ (⟨b, 0, none⟩ : Addr).block := fun h => h
  exact ⟨blk_far h0 (ne (by omega)) _, blk_far h1 (ne (by omega)) _, blk_far h2 (ne (by omega)) _, blk_far h3 (ne (by omega)) _, blk_put h4 0 _ rfl, blk_far h5 (ne (by omega)) _, by simpa [World.setCell] using h6⟩
theorem Bx.grown {W X : World} {S n : Nat} {sl sw : Value} {ii t mm : Nat} {ss : Int} (h : Bx W S n sl sw ii t mm ss) {v : Value} {k : Nat} {e : TypeId} {size : Nat} {xs : List Value} (hown : W.ownsRow (S + 6) e size v k xs) {o : Obj} (hg : (W.alloc o).grownBy X v.ownBlock) : Bx X S n sl sw ii t mm ss := by
  obtain ⟨h0, h1, h2, h3, h4, h5, h6⟩ := h
  have ne : ∀ b, b < S + 6 → some b ≠ v.ownBlock := fun b hb e => by have := own_base hown b e.symm; omega
  exact ⟨blk_grown (blk_alloc h0 _) hg (ne _ (by omega)), blk_grown (blk_alloc h1 _) hg (ne _ (by omega)), blk_grown (blk_alloc h2 _) hg (ne _ (by omega)), blk_grown (blk_alloc h3 _) hg (ne _ (by omega)), blk_grown (blk_alloc h4 _) hg (ne _ (by omega)), blk_grown (blk_alloc h5 _) hg (ne _ (by omega)), by have := hg.size; rw [World.size_alloc] at this; omega⟩
theorem below_grown2 {w W Y : World} (h : Below w.heap.size w W) {base : Nat} {v : Value} {n : Nat} {e : TypeId} {size : Nat} {xs : List Value} (hown : W.ownsRow base e size v n xs) (hb0 : w.heap.size ≤ base) {o : Obj} (hg : (W.alloc o).grownBy Y v.ownBlock) : Below w.heap.size w Y := by
  have hb := h.alloc h.size o
  refine ⟨hg.os.trans hb.os, hg.tape.trans hb.tape, hg.output.trans hb.output, Nat.le_trans hb.size hg.size, fun k hk => ?_⟩
  exact (hg.block k (Nat.lt_of_lt_of_le hk hb.size) (fun e => by have := own_base hown k e.symm; omega)).trans (hb.block k hk)
def natsV (ks : List Nat) : List Value := ks.map fun (k : Nat) => Value.int .i64 (k : Int)
def ChainRes (l : List S35) (t m i : Nat) (s : Int) (w : World) (e : Ending) (w' : World) : Prop :=
  ∃ v, e = .returned v ∧ w'.ownsRow w.heap.size 3 1 v (chainK l t m i s).length (natsV (chainK l t m i s)) ∧ Below w.heap.size w w'
set_option maxHeartbeats 4000000 in
theorem chain_calls (n : Nat) (l : List S35) (hv : validB n l = true) (A : Option Addr) (c gw cnt cw t m i : Nat) (s : Int) (w : World) (hl : Kd.C k35 w A l.length l) (hT : Tabs w gw cnt n l) (hm : m ≤ cnt) (hc : cnt ≤ 100) (ht : t < n) (hi : i < n) (hs : -1000000000000 ≤ s ∧ s ≤ 1000000000000)
    (h : Pl.LeO (walkT (bds l) m i t) s) :
    Calls Try.prog 42 #[.agg #[.int .i64 n, .slice A l.length c], .slice (some ⟨gw, 0, none⟩) cnt cw, .int .i64 i, .int .i64 t, .int .i64 m, .int .i64 s] w (ChainRes l t m i s w) := by
  obtain ⟨hBx, hBw⟩ := Bx.start w n (.slice A l.length c) (.slice (some ⟨gw, 0, none⟩) cnt cw) i t m s
  have HBx := Aside0.mk hBx
  have HBw := Aside0.mk hBw
  have HH := Aside0.mk h
  have K := Aside0.mk (And.intro hv (And.intro hl (And.intro hT (And.intro hm (And.intro hc (And.intro ht hs))))))
  have HI := Aside0.mk hi
  clear hBx hBw h hv hl hT hm hc ht hs hi
  go_enter Try.func42, Try.ntmps42
  go_wp2_with fail
  generalize (((((w.alloc (.cells #[.int .i64 n, .slice A l.length c] 30)).alloc (.cells #[.slice (some ⟨gw, 0, none⟩) cnt cw] 66)).alloc (.cells #[.int .i64 (i : Int)] 3)).alloc (.cells #[.int .i64 (t : Int)] 3)).alloc (.cells #[.int .i64 (m : Int)] 3)).alloc (.cells #[.int .i64 s] 3) = W0 at *
  go_loopg [13] m (fun kq v wr => ∃ (ii : Nat) (ss : Int) (ks : List Nat) (nk : Nat), Aside0 (nk = ks.length) ∧ Aside0 (wr.ownsRow (w.heap.size + 6) 3 1 v nk (natsV ks)) ∧ Aside0 (ks ++ chainK l t kq ii ss = chainK l t m i s ∧ ii < n ∧ kq ≤ m ∧ ks.length + kq = m) ∧ Aside0 (Pl.LeO (walkT (bds l) kq ii t) ss) ∧ Aside0 (-1000000000000 - 1000000000 * ((m : Int) - kq) ≤ ss ∧ ss ≤ 1000000000000 + 1000000000 * ((m : Int) - kq)) ∧
    Aside0 (Bx wr w.heap.size n (.slice A l.length c) (.slice (some ⟨gw, 0, none⟩) cnt cw) ii t kq ss) ∧ Aside0 (Below w.heap.size w wr))
  case atStart => exact ⟨i, s, [], 0, ⟨rfl⟩, ⟨⟨rfl, .inl ⟨rfl, rfl⟩⟩⟩, ⟨rfl, HI.out, Nat.le_refl _, by simp⟩, HH, ⟨by have := K.out.2.2.2.2.2.2; omega⟩, HBx, HBw⟩
  case round =>
    clear HBx HBw HH HI
    obtain ⟨ii, ss, ks, nk, HNK, HO, HC, HL, HS, HX, HW⟩ := hrel
    have k4 : wr.cell? ⟨w.heap.size + 1 + 1 + 1 + 1, 0, none⟩ = some (.int .i64 gk) := (blk_cell HX.out.2.2.2.2.1 0).trans rfl
    cases gk with
    | zero =>
      have hz : decide ((0 : Int) < ((0 : Nat) : Int)) = false := rfl
      go_wp2_with fail
      go_ret
      have hc := HC.out.1
      simp only [chainK, List.append_nil] at hc
      refine ⟨_, rfl, ?_, HW.out⟩
      rw [← hc, ← HNK.out]
      exact own_weaken HO.out (by omega)
    | succ mm =>
      have hz : decide ((0 : Int) < ((mm + 1 : Nat) : Int)) = true := decide_eq_true (by omega)
      have k1 : wr.cell? ⟨w.heap.size, 1, none⟩ = some (.slice A l.length c) := (blk_cell HX.out.1 1).trans rfl
      have hhi : ss < Far := by have := HS.out; have := HC.out.2.2.1; have := K.out.2.2.2.1; have := K.out.2.2.2.2.1; unfold Far; omega
      obtain ⟨k, hk, hkb, hkf⟩ : ∃ k, k < l.length ∧ nextB l mm ii t ss (l.getD k z35) = true ∧ ∀ j, j < k → nextB l mm ii t ss (l.getD j z35) = false := by
        obtain ⟨k, hk, hb⟩ := next_ex K.out.1 (m := mm) (by have := HC.out.2.2.1; have := K.out.2.2.2.1; have := K.out.2.2.2.2.1; omega) hhi HL.out
        refine ⟨l.findIdx (nextB l mm ii t ss), ?_, ?_, fun j hj => ?_⟩
        · exact List.findIdx_lt_length_of_exists ⟨l.getD k z35, by rw [List.getD_eq_getElem?_getD, List.getElem?_eq_getElem hk]; exact List.getElem_mem hk, hb⟩
        · have hlt : l.findIdx (nextB l mm ii t ss) < l.length := List.findIdx_lt_length_of_exists ⟨l.getD k z35, by rw [List.getD_eq_getElem?_getD, List.getElem?_eq_getElem hk]; exact List.getElem_mem hk, hb⟩
          rw [List.getD_eq_getElem?_getD, List.getElem?_eq_getElem hlt]
          exact List.findIdx_getElem (w := hlt)
        · have hjl : j < l.length := Nat.lt_of_lt_of_le hj List.findIdx_le_length
          rw [List.getD_eq_getElem?_getD, List.getElem?_eq_getElem hjl]
          simpa using List.not_of_lt_findIdx hj
      have hidx : l.findIdx (nextB l mm ii t ss) = k := findIdx_is hk hkb hkf
      have hgo := next_go K.out.1 (m := mm) (by have := HC.out.2.2.1; have := K.out.2.2.2.1; have := K.out.2.2.2.2.1; omega) hhi hk hkb
      obtain ⟨i', j', q, hx, hi', hj', hq⟩ := bound_at K.out.1 hk
      have hch : chainK l t (mm + 1) ii ss = k :: chainK l t mm j' (ss - q) := by simp only [chainK, hidx, hx, Int.toNat_natCast]
      rw [hx] at hgo
      have HG := Aside0.mk (show Pl.LeO (walkT (bds l) mm j' t) (ss - q) from by have := hgo.2; simpa using this)
      have HCH := Aside0.mk hch
      have HK := Aside0.mk (And.intro hk (And.intro hkb hkf))
      have HXK := Aside0.mk (And.intro hx (And.intro hi' (And.intro hj' hq)))
      have hkk : (0 : Int) ≤ (k : Int) := by omega
      clear hk hkb hkf hidx hgo hch hx hi' hj' hq hhi hkk
      go_wp2_with fail
      refine (idx_calls l A c 63 _ (fun j => nextB l mm ii t ss (l.getD j z35)) (fun _ W => Below wr.heap.size wr W) (fun _ W => Below wr.heap.size wr W) wr (enters_of Try.func63 (by kernel_rfl) rfl) (fun _ W hW => Kd.C_below (Kd.C_below K.out.2.1 HW.out) hW) (fun j W hj hW => ?_) (Below.refl _ _)).mono ?_
      · obtain ⟨a, b, d, hx, ha, hb, hd⟩ := bound_at K.out.1 hj
        rw [hx]
        have hXX := HX.out.below hW
        refine (chain1_calls a b d n l K.out.1 hd ha hb gw cnt cw mm ii t ss (by have := HC.out.2.2.1; have := K.out.2.2.2.1; omega) K.out.2.2.2.2.1 K.out.2.2.2.2.2.1 HC.out.2.1 _ _ _ _ _ W ((blk_cell hXX.2.2.1 0).trans rfl) ((blk_cell hXX.2.1 0).trans rfl) ((blk_cell hXX.2.2.2.2.1 0).trans rfl) ((blk_cell hXX.2.2.2.1 0).trans rfl) ((blk_cell hXX.2.2.2.2.2.1 0).trans rfl) ((K.out.2.2.1.below HW.out).below hW)).mono ?_
        exact fun e W' hh => ⟨hh.1, fun _ => below_step hW hh.2, fun _ => below_step hW hh.2⟩
      · rintro e w1 (⟨k', hk', hp, hq, rfl, hw1⟩ | ⟨hn, rfl, hw1⟩)
        · have hp' : nextB l mm ii t ss (l.getD k' z35) = true := hp
          have hq' : ∀ j, j < k' → nextB l mm ii t ss (l.getD j z35) = false := hq
          obtain rfl : k = k' := by
            rcases Nat.lt_trichotomy k' k with hlt | he | hlt
            · have := HK.out.2.2 k' hlt; rw [this] at hp'; cases hp'
            · exact he.symm
            · have := hq' k hlt; rw [HK.out.2.1] at this; cases this
          replace HX := Aside0.mk (HX.out.below hw1)
          replace HO := Aside0.mk (show w1.ownsRow (w.heap.size + 6) 3 1 u13 nk (natsV ks) from own_move HO.out (fun b hb => by obtain ⟨cc, hcc⟩ := own_typed HO.out b hb; exact (blk_below hcc hw1).trans hcc.symm))
          replace HW := Aside0.mk (below_step HW.out hw1)
          obtain ⟨ad, rfl, c0, c1, c2⟩ := cells_at (Kd.C_below K.out.2.1 HW.out) HK.out.1 HXK.out.1
          have HAD := Aside0.mk (show ad.block < w.heap.size from by
            obtain ⟨ad2, e, b0, _⟩ := cells_at K.out.2.1 HK.out.1 HXK.out.1
            obtain rfl : ad = ad2 := by injection e
            have := World.block_lt_of_cell? w _ b0
            rwa [add_block] at this)
          have q1 := eq_true (show (k : Int) < (l.length : Int) by have := HK.out.1; omega)
          have q2 := eq_true (show (0 : Int) ≤ (k : Int) by omega)
          have x1 : w1.cell? ⟨w.heap.size, 1, none⟩ = some (.slice (some ad) l.length c) := (blk_cell HX.out.1 1).trans rfl
          have x2 : w1.cell? ⟨w.heap.size + 1 + 1, 0, none⟩ = some (.int .i64 ii) := (blk_cell HX.out.2.2.1 0).trans rfl
          have x5 : w1.cell? ⟨w.heap.size + 1 + 1 + 1 + 1 + 1, 0, none⟩ = some (.int .i64 ss) := (blk_cell HX.out.2.2.2.2.2.1 0).trans rfl
          have f2 := blk_frozen HX.out.2.2.1 0
          have f5 := blk_frozen HX.out.2.2.2.2.2.1 0
          have hsub : IntKind.i64.wrap (ss - q) = ss - q := IntWalk.i64_in _ (by have := HS.out; have := HXK.out.2.2.2; have := HC.out.2.2.1; have := K.out.2.2.2.1; have := K.out.2.2.2.2.1; omega)
          clear hp hq hp' hq' k1 k4 hw1 hz
          simp only [encI]
          go_upto_region 5 with (fail)
          have nf : ∀ (p : Addr) (v : Value), w1.cell? p = some v → (w.heap.size + 1 + 1) ≠ p.block → (w1.setCell ⟨w.heap.size + 1 + 1, 0, none⟩ (.int .i64 (j' : Int))).cell? p = some v := fun p v hc hne => (World.cell?_setCell_far w1 ⟨w.heap.size + 1 + 1, 0, none⟩ p _ hne).trans hc
          have hadl : ad.block < w.heap.size := HAD.out
          have z1 := nf _ _ x1 (by simp only; omega)
          have z5 := nf _ _ x5 (by simp only; omega)
          have z2 := nf _ _ c2 (by simp only [add_block]; omega)
          have zf : (w1.setCell ⟨w.heap.size + 1 + 1, 0, none⟩ (.int .i64 (j' : Int))).frozen? ⟨w.heap.size + 1 + 1 + 1 + 1 + 1, 0, none⟩ = false := by rw [World.frozen?_setCell]; exact f5
          clear nf hadl
          go_region
          have hX2 := HX.out.step j' (ss - q)
          have hO2 : (((w1.setCell ⟨w.heap.size + 1 + 1, 0, none⟩ (.int .i64 (j' : Int))).setCell ⟨w.heap.size + 1 + 1 + 1 + 1 + 1, 0, none⟩ (.int .i64 (ss - q))).drew).ownsRow (w.heap.size + 6) 3 1 u13 nk (natsV ks) :=
            own_move HO.out (fun b hb => by
              have := own_base HO.out b hb
              exact (Below.heap_setCell _ _ _ b (by simp only; omega)).trans (Below.heap_setCell _ _ _ b (by simp only; omega)))
          have hW2 : Below w.heap.size w (((w1.setCell ⟨w.heap.size + 1 + 1, 0, none⟩ (.int .i64 (j' : Int))).setCell ⟨w.heap.size + 1 + 1 + 1 + 1 + 1, 0, none⟩ (.int .i64 (ss - q))).drew) := below_drew ((HW.out.setCell (p := ⟨w.heap.size + 1 + 1, 0, none⟩) (by simp only; omega) _).setCell (p := ⟨w.heap.size + 1 + 1 + 1 + 1 + 1, 0, none⟩) (by simp only; omega) _)
          generalize ((w1.setCell ⟨w.heap.size + 1 + 1, 0, none⟩ (.int .i64 (j' : Int))).setCell ⟨w.heap.size + 1 + 1 + 1 + 1 + 1, 0, none⟩ (.int .i64 (ss - q))).drew = W2 at hX2 hO2 hW2 ⊢
          have HX2 := Aside0.mk hX2
          have HO2 := Aside0.mk hO2
          have HW2 := Aside0.mk hW2
          have HNK2 := Aside0.mk (show nk ≤ 100 from by rw [HNK.out]; have := HC.out.2.2.2; have := K.out.2.2.2.1; have := K.out.2.2.2.2.1; omega)
          have HSZ := Aside0.mk (show w.heap.size + 6 ≤ W2.heap.size from hX2.2.2.2.2.2.2)
          have hmm : (mm : Int) ≤ 100 := by have := HC.out.2.2.1; have := K.out.2.2.2.1; have := K.out.2.2.2.2.1; omega
          obtain ⟨i3, hi3, hy0, hy1, hy2⟩ := info_parts info3
          have HY := Aside0.mk (And.intro hi3 (And.intro hy0 (And.intro hy1 hy2)))
          clear hX2 hO2 hW2 x1 x2 x5 f2 f5 hsub z1 z2 z5 zf c0 c1 c2 q1 q2 hi3 hy0 hy1 hy2
          go_wp2_with (at_builtin; refine wpList_append_lies _ rfl _ _ 22 rfl (w.heap.size + 6) 3 i3 (.int .i64 0) 1 8 Try.underlying22 HY.out.1 HY.out.2.1 HY.out.2.2.1 HY.out.2.2.2 rfl (by decide) u13 nk (natsV ks) rfl (HO2.out.alloc _) ⟨W2.heap.size, 0, none⟩ 1 1 [.int .i64 (k : Int)] rfl rfl (World.news_of_block (cs := #[.int .i64 (k : Int)]) (t := 3) (fr := (0, 0)) (heap_alloc_new W2 _)) (by simp [Value.oneCell']) (by omega) (by unfold maxLen; have := HNK2.out; omega) (by have := HNK2.out; omega) (by have := HSZ.out; simp; omega) (W2.heap.size + 1) (by simp) ?_; intro gg cap w3 hown3 hgrow hat hlt; have HOWN3 := Aside0.mk hown3; have HX3 := Aside0.mk (HX2.out.grown HO2.out hgrow); have HG3 := Aside0.mk hgrow; have k4 : w3.cell? ⟨w.heap.size + 1 + 1 + 1 + 1, 0, none⟩ = some (.int .i64 ((mm + 1 : Nat) : Int)) := (blk_cell HX3.out.2.2.2.2.1 0).trans rfl; have f4 := blk_frozen HX3.out.2.2.2.2.1 0; clear hown3 hgrow hat hlt)
          go_roundg mm
          case measure => omega
          case rel =>
            refine ⟨j', ss - q, ks ++ [k], nk + 1, ⟨by rw [HNK.out]; simp⟩, ⟨?_⟩, ⟨?_, HXK.out.2.2.1, by have := HC.out.2.2.1; omega, by have := HC.out.2.2.2; simp only [List.length_append, List.length_cons, List.length_nil]; omega⟩, HG, ⟨?_⟩, ⟨?_⟩, ⟨?_⟩⟩
            · rw [show natsV (ks ++ [k]) = natsV ks ++ [.int .i64 (k : Int)] by simp [natsV]]
              refine own_move HOWN3.out (fun b hb => ?_)
              have := own_base HOWN3.out b hb
              exact Below.heap_setCell _ _ _ b (by simp only; omega)
            · rw [List.append_assoc, List.singleton_append, ← HCH.out]; exact HC.out.1
            · have := HS.out; have := HXK.out.2.2.2; have := HC.out.2.2.1; omega
            · first | exact HX3.out.dec mm | (have := HX3.out.dec mm; simpa using this)
            · exact (below_grown2 HW2.out HO2.out (by omega) HG3.out).setCell (p := ⟨w.heap.size + 1 + 1 + 1 + 1, 0, none⟩) (by simp only; omega) _
        · exact absurd (show nextB l mm ii t ss (l.getD k z35) = false from hn k HK.out.1) (by rw [HK.out.2.1]; decide)
end Go.Proofs.Ytlokeimfmbgigaa.Bk

namespace Go.Proofs.Ytlokeimfmbgigaa.Rg
open Go Go.RowKit

/-- From A to B blocks have been laid, and of the elder ones only those of `own` have turned. -/
structure Turned (own : Nat → Prop) (A B : World) : Prop where
  os : B.os = A.os
  tape : B.tape = A.tape
  output : B.output = A.output
  size : A.heap.size ≤ B.heap.size
  block : ∀ k, k < A.heap.size → ¬ own k → B.heap[k]? = A.heap[k]?

section
variable {own own' : Nat → Prop} {A B C : World}
theorem Turned.refl (own : Nat → Prop) (A : World) : Turned own A A := ⟨rfl, rfl, rfl, Nat.le_refl _, fun _ _ _ => rfl⟩
theorem Turned.trans (h : Turned own A B) (k : Turned own B C) : Turned own A C :=
  ⟨k.os.trans h.os, k.tape.trans h.tape, k.output.trans h.output, Nat.le_trans h.size k.size, fun i hi hn => (k.block i (Nat.lt_of_lt_of_le hi h.size) hn).trans (h.block i hi hn)⟩
theorem Turned.mono (h : Turned own A B) (ho : ∀ k, own k → own' k) : Turned own' A B := ⟨h.os, h.tape, h.output, h.size, fun k hk hn => h.block k hk (fun x => hn (ho k x))⟩
theorem Turned.below (h : Below A.heap.size A B) : Turned own A B := ⟨h.os, h.tape, h.output, h.size, fun k hk _ => h.block k hk⟩
theorem Turned.then_below (h : Turned own A B) (k : Below B.heap.size B C) : Turned own A C := h.trans (Turned.below k)
theorem Turned.alloc (h : Turned own A B) (o : Obj) : Turned own A (B.alloc o) := h.trans (Turned.below ((Below.refl _ _).alloc (Nat.le_refl _) o))
theorem Turned.drew (h : Turned own A B) : Turned own A B.drew := ⟨h.os, h.tape, h.output, h.size, h.block⟩
theorem Turned.drewN (h : Turned own A B) (n : Nat) : Turned own A (B.drewN n) := ⟨h.os, h.tape, h.output, h.size, h.block⟩
theorem Turned.setCell (h : Turned own A B) {p : Addr} (hp : own p.block ∨ A.heap.size ≤ p.block) (u : Value) : Turned own A (B.setCell p u) :=
  ⟨h.os, h.tape, h.output, by simpa [World.setCell] using h.size, fun k hk hn => (Below.heap_setCell B p u k (by
    rintro rfl
    rcases hp with hp | hp
    · exact hn hp
    · omega)).trans (h.block k hk hn)⟩
theorem Turned.cell (h : Turned own A B) {p : Addr} (hp : p.block < A.heap.size) (hn : ¬ own p.block) : B.cell? p = A.cell? p := World.cell?_of_block (h.block p.block hp hn)
end

/-- Blocks of `own` may have turned, and blocks from B0 on that hold no cells (a loop's records). -/
structure TurnedL (own : Nat → Prop) (B0 : Nat) (A B : World) : Prop where
  os : B.os = A.os
  tape : B.tape = A.tape
  output : B.output = A.output
  size : A.heap.size ≤ B.heap.size
  block : ∀ k, k < A.heap.size → ¬ own k → (k < B0 ∨ ∃ o : Obj, A.heap[k]? = some o ∧ o.isCells = true) → B.heap[k]? = A.heap[k]?
section
variable {own : Nat → Prop} {B0 : Nat} {A B C : World}
theorem TurnedL.of (h : Turned own A B) : TurnedL own B0 A B := ⟨h.os, h.tape, h.output, h.size, fun k hk hn _ => h.block k hk hn⟩
theorem TurnedL.putObj (W : World) {l : Nat} {o : Obj} (o' : Obj) (hl : W.heap[l]? = some o) (ho : o.isCells = false) (hB : B0 ≤ l) : TurnedL own B0 W (W.putObj l o') :=
  ⟨rfl, rfl, rfl, by simp, fun k _ _ hc => World.putObj_heap_other (fun e => by
    subst e
    rcases hc with h | ⟨o2, h2, h3⟩
    · omega
    · rw [hl] at h2; cases h2; rw [ho] at h3; cases h3)⟩
theorem TurnedL.cells (h : TurnedL own B0 A B) {k : Nat} {cs : Array Value} {t : TypeId} {fz : Nat × Nat} (hk : A.heap[k]? = some (.cells cs t fz)) (hn : ¬ own k) : B.heap[k]? = some (.cells cs t fz) :=
  (h.block k (Array.getElem?_eq_some_iff.1 hk).1 hn (.inr ⟨_, hk, rfl⟩)).trans hk
end

def Nobody : Nat → Prop := fun _ => False
/-- The contract of an iterator without end: it yields one value after the other, of which `Tab` says what holds; a round that goes on leaves that so; N bounds the rounds. -/
def SeqTab (F : Fence) (n : Nat) (P : Program) (g : Nat) (lb : Array Value) (Tab : Nat → Value → World → Prop) (W : World) : Prop :=
  ∀ (l N : Nat) (J : Nat → World → Prop) (Jx : World → Prop), N ≤ 98 → (∀ s A B, J s A → Turned Nobody A B → J s B) → (∀ A B, Jx A → Turned Nobody A B → Jx B) →
    (∀ m W1, J m W1 → m ≤ N) →
    (∀ m v W1, J m W1 → Tab m v W1 → YieldAt F (n - 1) P l #[v] W1 fun e W' =>
      (e = .returned (.bool true) ∧ J (m + 1) W' ∧ Tab m v W') ∨ (e = .returned (.bool false) ∧ Jx W')) →
    J 0 W →
    CallsIn F n P g (#[.func (.yield l) #[] #[]] ++ lb) W fun e W' => (∃ v, e = .returned v) ∧ Jx W'

/-- How the body of a round may be left. -/
def roundEnd (B : Nat) (Tab : Nat → Value → World → Prop) (I : Nat → World → Prop) (Ix : Code → World → Prop) (m : Nat) (v : Value) (W : World) : Exit → Act → World → Prop
  | .normal, _, W' => KeepsFrom B W W' ∧ Tab m v W' ∧ I (m + 1) W'
  | .ret, _, W' => KeepsFrom B W W' ∧ Ix .ret W'
  | .exit id, _, W' => KeepsFrom B W W' ∧ Ix (.exit id) W'
  | .goto t, _, W' => KeepsFrom B W W' ∧ Ix (.goto t) W'
  | .panic _, _, _ => False
  | .outgrown, _, _ => False

variable {F : Fence} {n : Nat} {P : Program}

theorem wpIn_endless {g : Operand} {p : Tmp} {assign body : Code} {Q : Exit → Act → World → Prop} {a : Act} {w : World}
    (hro : F.round = none) (h1 : 1 ≤ n) {gf : Nat} {lb : Array Value} (hg : a.eval g = .func (.func gf) #[] lb) (hFg : F.fn gf) (eg : ∀ args w, (callFunc gf args).run P w = .ok (.enter gf args) w)
    {Tab : Nat → Value → World → Prop} (N : Nat) (hN98 : N ≤ 98) (hseq : ∀ W, Turned Nobody w W → SeqTab F (n - 1) P gf lb Tab W)
    (I : Nat → World → Prop) (Ix : Code → World → Prop)
    (hI : ∀ s A B, I s A → TurnedL Nobody w.heap.size A B → I s B) (hIx : ∀ c A B, Ix c A → TurnedL Nobody w.heap.size A B → Ix c B) (hTab : ∀ m v A B, Tab m v A → TurnedL Nobody w.heap.size A B → Tab m v B)
    (hN : ∀ m W, I m W → m ≤ N) (h0 : I 0 w)
    (hround : ∀ (l m : Nat) (v : Value) (W : World), w.heap.size ≤ l → (∃ r, W.heap[l]? = some (.loop r)) → I m W → Tab m v W →
      assign.wpIn (F.inRound l) (n - 1 - 1) P (Exit.then (fun a' W' => KeepsFrom w.heap.size W W' ∧ Tab m v W' ∧
        ∀ W2, TurnedL Nobody w.heap.size W' W2 → W2.heap.size = W'.heap.size → body.wpIn (F.inRound l) (n - 1 - 1) P (roundEnd w.heap.size Tab I Ix m v W2) a' W2) (fun _ _ _ => False))
        { tmps := ((#[p] : Array Tmp).zip #[v]).foldl (fun t (p, v) => t.setIfInBounds p v) a.tmps, defers := [] } W)
    (hstop : ∀ (D : Nat) (c : Code) (W : World), w.heap.size ≤ D → Ix c W → W.heap[D]? = some (.deferred (some [])) → c.wpIn F n P Q { a with defers := { target := .collected D, args := #[] } :: a.defers } W) :
    (Code.rangeFunc g #[p] assign body).wpIn F n P Q a w := by
  refine wpIn_rangeFunc ?_
  intro fn hfn
  rw [hro]
  obtain ⟨rec, hrec⟩ : ∃ rec : LoopState → Option Code → Loop, rec = fun st pe => { state := st, pending := pe, fn, tmps := a.tmps, params := #[p], assign, body, defers := w.heap.size } := ⟨_, rfl⟩
  obtain ⟨W1, hW1⟩ : ∃ W1, (w.alloc (.deferred (some []))).alloc (.loop (rec .ready none)) = W1 := ⟨_, rfl⟩
  have hL1 : W1.heap[w.heap.size + 1]? = some (.loop (rec .ready none)) := by
    rw [← hW1]; have := World.alloc_heap_new (w.alloc (.deferred (some []))) (.loop (rec .ready none)); rwa [World.size_alloc] at this
  have hK1 : W1.heap[w.heap.size]? = some (.deferred (some [])) := by
    rw [← hW1]; exact (Below.heap_alloc _ _ _ (by simp)).trans (World.alloc_heap_new w _)
  have hT1 : ∀ o, Turned o w W1 := fun o => by rw [← hW1]; exact ((Turned.refl o w).alloc _).alloc _
  have hI1 : I 0 W1 := hI _ _ _ h0 (TurnedL.of (hT1 _))
  refine ⟨w.heap.size + 1, [{ target := .collected w.heap.size, args := #[] }], W1, { target := .fn (.func gf) lb, args := #[.func (.yield (w.heap.size + 1)) #[] #[]] }, W1, gf,
    #[.func (.yield (w.heap.size + 1)) #[] #[]] ++ lb, W1, ?_, ?_, ?_, ?_, fun _ => h1, ?_⟩
  · rw [← hW1, hrec]; exact run_enterLoop_outer _ _ _ _ _
  · simp only [resolve, hg]
    simp [go_sem]
  · intro f' hf'; simp [Target.leads] at hf'; subst hf'; exact hFg
  · simp [invoke, go_sem, eg]
  · have hst : ∀ {A B : World} {k : Nat} {o : Obj}, Turned Nobody A B → A.heap[k]? = some o → B.heap[k]? = some o := fun hT ho =>
      (hT.block _ (Array.getElem?_eq_some_iff.1 ho).1 (fun h => h)).trans ho
    refine (hseq W1 (hT1 _) (w.heap.size + 1) N
      (fun m W => I m W ∧ W.heap[w.heap.size + 1]? = some (.loop (rec .ready none)) ∧ W.heap[w.heap.size]? = some (.deferred (some [])))
      (fun W => ∃ c, Ix c W ∧ W.heap[w.heap.size + 1]? = some (.loop (rec .done (some c))) ∧ W.heap[w.heap.size]? = some (.deferred (some []))) hN98
      (fun s A B hs hT => ⟨hI s A B hs.1 (TurnedL.of hT), hst hT hs.2.1, hst hT hs.2.2⟩)
      (fun A B hs hT => by
        obtain ⟨c, hc, hl, hk⟩ := hs
        exact ⟨c, hIx c A B hc (TurnedL.of hT), hst hT hl, hst hT hk⟩)
      (fun m W hj => hN m W hj.1)
      ?_ ⟨hI1, hL1, hK1⟩).mono ?_
    · -- one round
      rintro m v W ⟨hi, hl, hk⟩ htab
      have hy := run_yield (P := P) (args := #[v]) hl (by rw [hrec]; rfl)
      rw [hrec] at hy
      refine ⟨fn, _, assign, body, hy, roundIn_of_wpIn hfn (wpIn_mono (hround (w.heap.size + 1) m v W (by omega) ⟨_, hl⟩ hi htab) ?_)⟩
      clear hy
      intro e a' Wa he
      cases e with
      | normal =>
        obtain ⟨hkfa, htaba, hbody⟩ := he
        have hl' := hkfa.same _ _ (by omega) hl rfl
        have hk' := hkfa.same _ _ (Nat.le_refl _) hk rfl
        have hlt : w.heap.size + 1 < Wa.heap.size := (Array.getElem?_eq_some_iff.1 hl').1
        refine ⟨_, run_beginRound hl' (by rw [hrec]), ?_⟩
        have hl2 : (Wa.putObj (w.heap.size + 1) (.loop { rec .ready none with state := .busy })).heap[w.heap.size + 1]? = some (.loop { rec .ready none with state := .busy }) := World.putObj_heap_same hlt
        have hk2 : (Wa.putObj (w.heap.size + 1) (.loop { rec .ready none with state := .busy })).heap[w.heap.size]? = some (.deferred (some [])) := (World.putObj_heap_other (by omega)).trans hk'
        refine wpIn_mono (hbody _ (TurnedL.putObj _ _ hl' rfl (by omega)) (by simp)) ?_
        have fin : ∀ (jump : Option Code) (W3 : World), KeepsFrom w.heap.size (Wa.putObj (w.heap.size + 1) (.loop { rec .ready none with state := .busy })) W3 →
            (Instr.endRound (w.heap.size + 1) jump).run P W3 = .ok (.bool jump.isNone) (W3.putObj (w.heap.size + 1) (.loop (rec (if jump.isNone then .ready else .done) jump))) ∧
            W3.heap[w.heap.size + 1]? = some (.loop { rec .ready none with state := .busy }) ∧
            (W3.putObj (w.heap.size + 1) (.loop (rec (if jump.isNone then .ready else .done) jump))).heap[w.heap.size + 1]? = some (.loop (rec (if jump.isNone then .ready else .done) jump)) ∧
            (W3.putObj (w.heap.size + 1) (.loop (rec (if jump.isNone then .ready else .done) jump))).heap[w.heap.size]? = some (.deferred (some [])) := fun jump W3 hk3 => by
          have hl3 := hk3.same _ _ (by omega) hl2 rfl
          have := run_endRound (P := P) jump hl3
          rw [hrec] at this ⊢
          exact ⟨this, by rw [hrec] at hl3; exact hl3, World.putObj_heap_same (Array.getElem?_eq_some_iff.1 hl3).1, (World.putObj_heap_other (by omega)).trans (hk3.same _ _ (Nat.le_refl _) hk2 rfl)⟩
        rintro e a3 W3 hp
        cases e with
        | normal =>
          obtain ⟨hk3, htab3, hi3⟩ := hp
          obtain ⟨hr, hl3, hl4, hk4⟩ := fin none W3 hk3
          exact ⟨_, _, hr, .inl ⟨rfl, ⟨hI _ _ _ hi3 (TurnedL.putObj _ _ hl3 rfl (by omega)), hl4, hk4⟩, hTab _ _ _ _ htab3 (TurnedL.putObj _ _ hl3 rfl (by omega))⟩⟩
        | ret =>
          obtain ⟨hk3, hi3⟩ := hp
          obtain ⟨hr, hl3, hl4, hk4⟩ := fin (some .ret) W3 hk3
          exact ⟨_, _, hr, .inr ⟨rfl, .ret, hIx _ _ _ hi3 (TurnedL.putObj _ _ hl3 rfl (by omega)), hl4, hk4⟩⟩
        | exit id =>
          obtain ⟨hk3, hi3⟩ := hp
          obtain ⟨hr, hl3, hl4, hk4⟩ := fin (some (.exit id)) W3 hk3
          exact ⟨_, _, hr, .inr ⟨rfl, .exit id, hIx _ _ _ hi3 (TurnedL.putObj _ _ hl3 rfl (by omega)), hl4, hk4⟩⟩
        | goto t =>
          obtain ⟨hk3, hi3⟩ := hp
          obtain ⟨hr, hl3, hl4, hk4⟩ := fin (some (.goto t)) W3 hk3
          exact ⟨_, _, hr, .inr ⟨rfl, .goto t, hIx _ _ _ hi3 (TurnedL.putObj _ _ hl3 rfl (by omega)), hl4, hk4⟩⟩
        | panic ch => exact hp.elim
        | outgrown => exact hp.elim
      | exit id => exact he.elim
      | goto l => exact he.elim
      | ret => exact he.elim
      | panic chain => exact he.elim
      | outgrown => exact he.elim
    · -- behind the iterator
      rintro e W2 ⟨⟨v, rfl⟩, c, hi, hl, hk⟩
      exact ⟨some c, _, by have := run_endLoop (P := P) hl (by rw [hrec]; simp); rw [hrec] at this; exact this, hstop _ c _ (Nat.le_refl _) (hIx _ _ _ hi (TurnedL.putObj _ _ hl rfl (by omega))) ((World.putObj_heap_other (by omega)).trans hk)⟩

/-! ### A region that draws its order and only reads, within a round -/
section quiet
variable {ops : Array Oper} {md : Region.Mode} {C : World → Prop}
def plainOp (o : Oper) : Bool := match o.op with
  | .defer _ => false
  | _ => true
theorem plainOp_ne {o : Oper} (h : plainOp o = true) : ∀ c, o.op ≠ .defer c := by
  intro c hc
  simp [plainOp, hc] at h
theorem wpIn_of_quietR {o : Oper} {a : Act} {K : Act → Prop} {K' : Act → World → Prop} {Q' : Exit → Act → World → Prop} {w : World} (hnd : plainOp o = true) (hw : C w) (h : ∀ a w', C w' → K a → K' a w')
    (ha : o.askedIn F P a C) (hh : o.quietIn F n P a C K) : o.wpIn F n P a w K' Q' := by
  obtain ⟨v, h1, h2⟩ := hh
  have h3 := h1 w hw
  unfold Oper.quietAtIn at h3
  unfold Oper.wpIn
  refine ⟨ha w hw, ?_⟩
  rw [Oper.semAt_plain F _ _ (plainOp_ne hnd)]
  generalize (execOp a.eval o).run P w = r at *
  cases r with
  | ok x w' =>
    cases x <;> simp only [Oper.quietUponIn] at h3 <;> simp only [Oper.uponIn]
    case value u =>
      obtain ⟨e1, e2⟩ := h3
      rw [e1, e2]
      exact h _ _ hw h2
    case skip =>
      obtain ⟨e1, e2⟩ := h3
      rw [e1, ← e2]
      exact h _ _ hw h2
    case enter f args =>
      obtain ⟨e1, hd, hc⟩ := h3
      rw [e1]
      exact ⟨hd, hc.mono fun e w'' ⟨he, hw''⟩ => by subst he; exact h _ _ hw'' h2⟩
  | halt x w' => simp only [Oper.quietUponIn] at h3
theorem wpOpIn_of_quietR {i : Nat} {a : Act} {K : Act → Prop} {K' : Act → World → Prop} {Q' : Exit → Act → World → Prop} {w : World} (hnd : ops.toList.all plainOp = true) (hC : C w) (h : ∀ a w', C w' → K a → K' a w')
    (hh : qOpIn F n P ops C i K a) : wpOpIn F n P ops Q' i K' a w := by
  unfold qOpIn at hh
  unfold wpOpIn
  split
  · rename_i ho; simp only [ho] at hh; exact h _ _ hC hh
  · rename_i o ho
    simp only [ho] at hh
    obtain ⟨ha, hh⟩ := hh
    have hp : plainOp o = true := by
      refine List.all_eq_true.1 hnd o ?_
      obtain ⟨hlt, he⟩ := Array.getElem?_eq_some_iff.1 ho
      rw [← he]
      exact Array.getElem_mem_toList ..
    split
    · rename_i hw; simp only [hw, if_true] at hh; exact wpIn_of_quietR hp hC h ha hh
    · rename_i hw; simp only [hw] at hh; exact ⟨ha w hC, h _ _ hC hh⟩
theorem wpAnyIn_of_quietR {Q : Act → Prop} {Q' : Exit → Act → World → Prop} (hnd : ops.toList.all plainOp = true) (hQ : ∀ a w, C w → Q a → Q' .normal a w) : ∀ (fuel : Nat) (listed : Array Bool) (a : Act) (w : World), C w →
    wpAnyQIn F n P md ops C Q fuel listed a → wpAnyIn F n P md ops Q' fuel listed a w
  | 0, _, _, _, hw, h => ⟨h.1, hQ _ _ hw h.2⟩
  | fuel + 1, _, _, _, hw, h => ⟨fun h0 => hQ _ _ hw (h.1 h0), fun i hi => wpOpIn_of_quietR hnd hw (fun a' w' hw' => wpAnyIn_of_quietR hnd hQ fuel _ a' w' hw') (h.2 i hi)⟩
theorem wpIn_region_quietR {id : Nat} {Q : Exit → Act → World → Prop} {a : Act} {w : World} {l : List Oper} (hm : P.follows .mixedOrders = true) (hB : Region.lexB .any l.toArray = true) (hnd : l.all plainOp = true)
    (h : wpQuietIn F n P l.toArray (fun w' => ∃ n, w' = w.drewN n) (fun a' => ∀ w', (∃ n, w' = w.drewN n) → Q .normal a' w') l a) : (Code.region id l.toArray true).wpIn F n P Q a w := by
  simp only [Region.lexB, Bool.and_eq_true] at hB
  refine wpIn_region_any hm (wpAnyIn_of_quietR (C := fun w' => ∃ n, w' = w.drewN n) (Q := fun a' => ∀ w', (∃ n, w' = w.drewN n) → Q .normal a' w') (by simpa using hnd) (fun _ w' hw' h => h w' hw') _ _ _ _ ⟨1, rfl⟩ ?_)
  have := wpAnyQIn_lex (F := F) (n := n) (C := fun w' => ∃ n, w' = w.drewN n) (md := .any) hB.1 l 0 (Array.replicate l.toArray.size false) a (by simp) (by simpa using hB.2) h
  simpa using this
end quiet
end Go.Proofs.Ytlokeimfmbgigaa.Rg

set_option linter.unusedVariables false
namespace Go.Proofs.Ytlokeimfmbgigaa.Pl
open Go.Proofs.YtlokeimfmbgigaaW.PrintWords
open Go.Proofs.Ytlokeimfmbgigaa.Ref Go.Proofs.Ytlokeimfmbgigaa.Bk
/-- The next table behind the first j bounds. -/
def nexJ (l : List S35) (L : Ti) (j : Nat) : Ti := ((bds l).take j).foldl (addWI L) (fun _ _ => Far)
/-- .. and of the next bound in the rows below i. -/
def nexI (l : List S35) (L : Ti) (j i : Nat) : Ti := fun a b => if a < i then nexJ l L (j + 1) a b else nexJ l L j a b
theorem nexJ_zero (l : List S35) (L : Ti) : nexJ l L 0 = fun _ _ => Far := rfl
theorem nexJ_all (l : List S35) (m : Nat) : nexJ l (walkI (bds l) m) l.length = walkI (bds l) (m + 1) := by
  unfold nexJ
  rw [List.take_of_length_le (by simp [bds])]
  rfl
theorem nexJ_succ (l : List S35) (L : Ti) (j i k : Nat) (m : Int) (hj : j < l.length) (h : l.getD j z35 = ⟨i, k, m⟩) : nexJ l L (j + 1) = addWI L (nexJ l L j) (i, k, m) := by
  unfold nexJ
  have hlt : j < (bds l).length := by simpa [bds] using hj
  rw [List.take_succ_eq_append_getElem hlt, List.foldl_append]
  have : (bds l)[j] = (i, k, m) := by
    simp only [bds, List.getElem_map]
    rw [List.getD_eq_getElem?_getD, List.getElem?_eq_getElem hj] at h
    simp only [Option.getD_some] at h
    rw [h]
    simp
  rw [this]
  rfl
theorem nexI_zero (l : List S35) (L : Ti) (j : Nat) : nexI l L j 0 = nexJ l L j := by
  funext a b
  unfold nexI
  rw [if_neg (Nat.not_lt_zero a)]
theorem nexI_full (l : List S35) (L : Ti) (j n a b : Nat) (ha : a < n) : nexI l L j n a b = nexJ l L (j + 1) a b := by
  unfold nexI
  rw [if_pos ha]
theorem nexI_step (l : List S35) (L : Ti) (j f k : Nat) (m : Int) (hj : j < l.length) (h : l.getD j z35 = ⟨f, k, m⟩) (i : Nat) : nexI l L j (i + 1) = updI (nexI l L j i) i k (min (nexI l L j i i k) (plusI (L i f) m)) := by
  funext a b
  have hs := nexJ_succ l L j f k m hj h
  unfold updI nexI
  by_cases hab : a = i ∧ b = k
  · obtain ⟨rfl, rfl⟩ := hab
    rw [if_pos (Nat.lt_succ_self a), if_pos (⟨rfl, rfl⟩ : a = a ∧ b = b), if_neg (Nat.lt_irrefl a), hs]
    unfold addWI
    rw [if_pos rfl]
  · rw [if_neg hab]
    by_cases ha : a = i
    · subst ha
      rw [if_pos (Nat.lt_succ_self a), if_neg (Nat.lt_irrefl a), hs]
      unfold addWI
      rw [if_neg (fun e => hab ⟨rfl, e⟩)]
    · by_cases hl : a < i
      · rw [if_pos hl, if_pos (by omega)]
      · rw [if_neg hl, if_neg (by omega)]
end Go.Proofs.Ytlokeimfmbgigaa.Pl
namespace Go.Proofs.Ytlokeimfmbgigaa.Bk
open Go.RowKit Go.Shelf Go.Proofs.YtlokeimfmbgigaaW.PrintWords Go.Proofs.YtlokeimfmbgigaaW.PrintLast Go.Proofs.YtlokeimfmbgigaaW.PrintMore
open Go.Proofs.Ytlokeimfmbgigaa.Ref Go.Proofs.Ytlokeimfmbgigaa.Pl Go.Proofs.Ytlokeimfmbgigaa.Qs Go.Proofs.Ytlokeimfmbgigaa.Rg
theorem Mat.ext {w : World} {base g n : Nat} {rows caps : Nat → Nat} {D D' : Ti} (h : Mat w base g n rows caps D) (he : ∀ i k, i < n → k < n → D i k = D' i k) : Mat w base g n rows caps D' :=
  ⟨h.outer, fun j hj => by obtain ⟨cur, h1, h2⟩ := h.inner j hj; exact ⟨cur, h1, fun k hk => by rw [← he j k hj hk]; exact h2 k hk⟩, h.gb, h.rb, h.inj, h.cap⟩
/-- What holds of what walks yields as number m. -/
def WTab (w0 : World) (bB n : Nat) (l : List S35) (A : Option Addr) (c m : Nat) (v : Value) (W : World) : Prop :=
  W.heap[bB]? = some (.cells #[.int .i64 n, .slice A l.length c] 30 (0, 0)) ∧ Below w0.heap.size w0 W ∧ Table n (walkI (bds l) m) 0 W v
theorem walks_calls (n : Int) (A : Option Addr) (k c : Nat) (w : World) :
    Calls Try.prog 41 #[.agg #[.int .i64 n, .slice A k c]] w fun e w' => e = .returned (.func (.func 59) #[] #[.pointer (some ⟨w.heap.size, 0, none⟩)]) ∧ w' = w.alloc (.cells #[.int .i64 n, .slice A k c] 30) := by
  go_enter Try.func41, Try.ntmps41
  go_wp2
  go_ret
  exact ⟨rfl, rfl⟩
end Go.Proofs.Ytlokeimfmbgigaa.Bk

set_option linter.unusedVariables false
namespace Go.Proofs.Ytlokeimfmbgigaa.Bk
open Go.RowKit Go.Shelf Go.Proofs.YtlokeimfmbgigaaW.PrintWords Go.Proofs.YtlokeimfmbgigaaW.PrintLast Go.Proofs.YtlokeimfmbgigaaW.PrintMore
open Go.Proofs.Ytlokeimfmbgigaa.Ref Go.Proofs.Ytlokeimfmbgigaa.Pl Go.Proofs.Ytlokeimfmbgigaa.Qs Go.Proofs.Ytlokeimfmbgigaa.Rg
attribute [local go_sem high] run_min_min
attribute [local go_sem] Oper.semAt_some

set_option maxHeartbeats 4000000 in
set_option maxRecDepth 100000 in
theorem walks_seq (fu n : Nat) (l : List S35) (hv : validB n l = true) (A : Option Addr) (c bB : Nat) (w0 W : World) (hB : W.heap[bB]? = some (.cells #[.int .i64 n, .slice A l.length c] 30 (0, 0))) (hl : Kd.C k35 w0 A l.length l) (hw0 : Below w0.heap.size w0 W) :
    SeqTab Fence.wide fu Try.prog 59 #[.pointer (some ⟨bB, 0, none⟩)] (WTab w0 bB n l A c) W := by
  intro y N J Jx hN98 hJ hJx hN hY h0
  have hn : n ≤ 16 := by have := valid_n hv; omega
  have HV := Aside0.mk (And.intro hv hn)
  have HBL := Aside0.mk (And.intro hB hw0)
  have HL := Aside0.mk hl
  have HJ := Aside0.mk hJ
  have HJx := Aside0.mk hJx
  have HN := Aside0.mk hN
  have HN98 := Aside0.mk hN98
  have HY := Aside0.mk hY
  have H0 := Aside0.mk h0
  have k0 : W.cell? ⟨bB, 0, none⟩ = some (.int .i64 n) := (blk_cell hB 0).trans rfl
  clear hJ hJx hN hY h0 hv hn hB hl hN98 hw0
  refine callsIn_of_wp Try.func59 rfl trivial ?_ rfl
  simp only [Try.ntmps59, List.size_toArray, List.length_cons, List.length_nil, Nat.reduceAdd, Nat.reduceSub, Array.replicate_succ, Array.replicate_zero, List.push_toArray, List.append_toArray, List.nil_append, List.cons_append]
  gi_wp2_with fail
  refine ⟨trivial, by simp [Fence.wide], ?_⟩
  refine (callsIn_wide.2 (none_calls n HV.out.2 _)).mono ?_
  rintro e w1 ⟨v, rfl, hT, hb⟩
  have H1 := Aside0.mk (show J 0 w1 from HJ.out _ _ _ H0.out (Turned.below hb))
  have HT1 := Aside0.mk (show WTab w0 bB n l A c 0 v w1 from ⟨blk_below HBL.out.1 hb, below_step HBL.out.2 hb, hT.weak (Nat.zero_le _)⟩)
  clear k0 hT hb
  gi_wp2_with fail
  gi_loopg [3] (N + 1) (fun kq v3 wr => ∃ m : Nat, Aside0 (m + kq = N + 1) ∧ Aside0 (J m wr) ∧ Aside0 (WTab w0 bB n l A c m v3 wr))
  case atStart => exact ⟨0, ⟨by omega⟩, H1, HT1⟩
  case round =>
    clear H0 HBL H1 HT1
    obtain ⟨m, HM, HJm, HT⟩ := hrel
    obtain ⟨fn, tmps, assign, body, hy, hR⟩ := HY.out m _ _ HJm.out HT.out
    gi_wp2_with fail
    refine ⟨by simp [Fence.wide], ?_⟩
    refine hR.mono ?_
    clear hR hy
    rintro e W' (⟨rfl, hJ', hT'⟩ | ⟨rfl, hJx'⟩)
    · obtain ⟨hT1, hT2, g3, rows3, caps3, rfl, hM3⟩ := hT'
      have HJ' := Aside0.mk hJ'
      have HT' := Aside0.mk (And.intro hT1 (And.intro hT2 hM3))
      have k0 : W'.cell? ⟨bB, 0, none⟩ = some (.int .i64 n) := (blk_cell hT1 0).trans rfl
      have hmN := HN.out _ _ hJ'
      have HMN := Aside0.mk hmN
      clear hJ' hT1 hT2 hM3 hmN HJm HT
      gi_wp2_with fail
      refine ⟨trivial, by simp [Fence.wide], ?_⟩
      refine (callsIn_wide.2 (farT_calls n HV.out.2 _)).mono ?_
      rintro e w2 ⟨v4, rfl, ⟨g, rows, caps, rfl, hM⟩, hb⟩
      have HMF := Aside0.mk (show Mat w2 W'.heap.size g n rows caps (nexJ l (walkI (bds l) m) 0) from by rw [nexJ_zero]; exact hM)
      have HB2 := Aside0.mk hb
      have HBX := Aside0.mk (blk_below HT'.out.1 hb)
      have k1 : w2.cell? ⟨bB, 1, none⟩ = some (.slice A l.length c) := (blk_cell HBX.out 1).trans rfl
      clear k0 hM hb
      gi_wp2_with fail
      refine wpIn_wide.2 ?_
      clear k1
      have HM100 := Aside0.mk (show m + 1 ≤ 98 from by have := HMN.out; have := HN98.out; omega)
      obtain ⟨wo1, rfl⟩ : ∃ wo1 : World, wo1 = wr := ⟨_, rfl⟩
      go_loopg [20] l.length (fun kq v wr => ∃ j : Nat, v = .int .i64 (j : Int) ∧ Aside0 (j + kq = l.length) ∧ Aside0 (Mat wr W'.heap.size g n rows caps (nexJ l (walkI (bds l) m) j)) ∧ Aside0 (Below W'.heap.size W' wr))
      case atStart => exact ⟨0, rfl, ⟨by omega⟩, HMF, HB2⟩
      case round =>
        clear HMF HB2 HBX
        obtain ⟨j, rfl, HK, HMX, HW⟩ := hrel
        by_cases hj : j < l.length
        · have hjb : decide ((j : Int) < (l.length : Int)) = true := decide_eq_true (by omega)
          have q1 := eq_true (show (j : Int) < (l.length : Int) by omega)
          have q2 := eq_true (show (0 : Int) ≤ (j : Int) by omega)
          obtain ⟨f, k, q, hx, hf, hk, hq⟩ := bound_at HV.out.1 hj
          obtain ⟨ad, rfl, c0, c1, c2⟩ := cells_at (Kd.C_below (Kd.C_below HL.out HT'.out.2.1) HW.out) hj hx
          have HST := Aside0.mk (nexI_step l (walkI (bds l) m) j f k q hj hx)
          have HFK := Aside0.mk (And.intro hf (And.intro hk hq))
          have HJL := Aside0.mk hj
          have HMZ := Aside0.mk (show Mat wr W'.heap.size g n rows caps (nexI l (walkI (bds l) m) j 0) from by rw [nexI_zero]; exact HMX.out)
          have hXb := (Below.refl _ wr).alloc (Nat.le_refl _) (.cells #[.int .i64 (f : Int), .int .i64 (k : Int), .int .i64 q] 35)
          have HXN := Aside0.mk (blk_new wr (.cells #[.int .i64 (f : Int), .int .i64 (k : Int), .int .i64 q] 35))
          have HXB := Aside0.mk hXb
          have k2 : (wr.alloc (.cells #[.int .i64 (f : Int), .int .i64 (k : Int), .int .i64 q] 35)).cell? ⟨bB, 0, none⟩ = some (.int .i64 n) := (blk_cell (blk_below (blk_below HT'.out.1 HW.out) hXb) 0).trans rfl
          clear hx hf hk hq hj hXb
          go_wp2_with fail
          generalize wr.alloc (.cells #[.int .i64 (f : Int), .int .i64 (k : Int), .int .i64 q] 35) = X at *
          obtain ⟨S, hS⟩ : ∃ S, S = wr.heap.size := ⟨_, rfl⟩
          have HLT := Aside0.mk (show ∀ a, a < n → rows a < wr.heap.size from fun a ha => by obtain ⟨cur, hcc, _⟩ := HMX.out.inner a ha; exact blk_lt hcc)
          have HM0 := Aside0.mk (show Mat X W'.heap.size g n rows caps (nexI l (walkI (bds l) m) j 0) from HMZ.out.below HXB.out)
          have HW0 := Aside0.mk (below_step HW.out HXB.out)
          rw [← hS] at HXN HLT ⊢
          clear HMZ HMX HW HXB hS c0 c1 c2 q1 q2 k2
          obtain ⟨wo2, rfl⟩ : ∃ wo2 : World, wo2 = wr := ⟨_, rfl⟩
          go_loopg [26] n (fun kq v wr => ∃ i : Nat, v = .int .i64 (i : Int) ∧ Aside0 (i + kq = n) ∧ Aside0 (Mat wr W'.heap.size g n rows caps (nexI l (walkI (bds l) m) j i)) ∧ Aside0 (wr.heap[S]? = some (.cells #[.int .i64 (f : Int), .int .i64 (k : Int), .int .i64 q] 35 (0, 0))) ∧ Aside0 (Below W'.heap.size W' wr))
          case atStart => exact ⟨0, rfl, ⟨by omega⟩, HM0, HXN, HW0⟩
          case round =>
            clear HM0 HXN HW0
            obtain ⟨i, rfl, HKI, HMI, HXI, HWI⟩ := hrel
            by_cases hi : i < n
            · have hib : decide ((i : Int) < (n : Int)) = true := decide_eq_true (by omega)
              have HII := Aside0.mk hi
              have q1 := eq_true (show (i : Int) < (n : Int) by omega)
              have q2 := eq_true (show (0 : Int) ≤ (i : Int) by omega)
              have q3 := eq_true (show (f : Int) < (n : Int) by have := HFK.out.1; omega)
              have q4 := eq_true (show (0 : Int) ≤ (f : Int) by omega)
              have q5 := eq_true (show (k : Int) < (n : Int) by have := HFK.out.2.1; omega)
              have q6 := eq_true (show (0 : Int) ≤ (k : Int) by omega)
              have y0 := HMI.out.row hi
              have y1 := HMI.out.cell hi HFK.out.2.1
              have y2 := HMI.out.frozen hi k
              have z0 := (HT'.out.2.2.below HWI.out).row hi
              have z1 := (HT'.out.2.2.below HWI.out).cell hi HFK.out.1
              have x0 : wr.cell? ⟨S, 0, none⟩ = some (.int .i64 f) := (blk_cell HXI.out 0).trans rfl
              have x1 : wr.cell? ⟨S, 1, none⟩ = some (.int .i64 k) := (blk_cell HXI.out 1).trans rfl
              have x2 : wr.cell? ⟨S, 2, none⟩ = some (.int .i64 q) := (blk_cell HXI.out 2).trans rfl
              have HSA := Aside0.mk (walk_small (bds_small HV.out.1) m (by have := HM100.out; omega) i f)
              have HSQ := Aside0.mk (show SmF q from .inr (by have := HFK.out.2.2; omega))
              have HSI := Aside0.mk (HST.out i)
              generalize walkI (bds l) m i f = sm at z1 HSA HSI
              clear hi
              go_upto_region 9 with (fail)
              refine wp_region_still_tail 26 (by kernel_rfl) (by kernel_rfl) ?_
              simp only [List.take_succ_cons, List.take_zero, List.drop_succ_cons, List.drop_zero]
              repeat still_step
              still_call (plus_calls sm q HSA.out HSQ.out _)
              repeat still_step
              refine wpStill_nil ?_
              have hi17 : i + 1 ≤ 17 := by have := HII.out; have := HV.out.2; omega
              go_wp2_with fail
              go_roundg (n - (i + 1))
              case measure => have := HKI.out; have := HII.out; omega
              case rel => exact ⟨i + 1, by go_num, ⟨by have := HKI.out; have := HII.out; omega⟩, ⟨by rw [HSI.out]; exact (HMI.out.put HII.out HFK.out.2.1 _).drewN 1⟩, ⟨blk_drewN (blk_far HXI.out (p := ⟨rows i, k, none⟩) (by have := HLT.out i HII.out; simp only; omega) _) 1⟩, ⟨pw_below_drewN (HWI.out.setCell (p := ⟨rows i, k, none⟩) (by have := HMI.out.rb i HII.out; simp only; omega) _) 1⟩⟩
            · have hib : decide ((i : Int) < (n : Int)) = false := decide_eq_false (by omega)
              have hin : i = n := by have := HKI.out; omega
              have hj61 : j + 1 ≤ 61 := by have := HJL.out; have := (small_valid HV.out.1).1; omega
              clear hi
              go_wp2_with fail
              go_roundg (l.length - (j + 1))
              case measure => have := HK.out; have := HJL.out; omega
              case rel => exact ⟨j + 1, by go_num, ⟨by have := HK.out; have := HJL.out; omega⟩, ⟨HMI.out.ext (fun a b ha hb => by rw [hin]; exact nexI_full l _ j n a b ha)⟩, HWI⟩
        · have hjb : decide ((j : Int) < (l.length : Int)) = false := decide_eq_false (by omega)
          have hjl : j = l.length := by have := HK.out; omega
          have HFT := Aside0.mk (show Mat wr W'.heap.size g n rows caps (walkI (bds l) (m + 1)) from by have := HMX.out; rw [hjl, nexJ_all] at this; exact this)
          have HWF := Aside0.mk (show WTab w0 bB n l A c (m + 1) (.slice (some ⟨g, 0, none⟩) n n) wr from ⟨blk_below HT'.out.1 HW.out, below_step HT'.out.2.1 HW.out, g, rows, caps, rfl, HFT.out.weak (Nat.zero_le _)⟩)
          have HJF := Aside0.mk (show J (m + 1) wr from HJ.out _ _ _ HJ'.out (Turned.below HW.out))
          clear hj
          go_wp2_with fail
          gi_wp2_with fail
          gi_roundg (N - m)
          case measure => have := HM.out; have := HMN.out; omega
          case rel => exact ⟨m + 1, ⟨by have := HM.out; have := HMN.out; omega⟩, HJF, HWF⟩
    · have HJx' := Aside0.mk hJx'
      clear hJx'
      gi_wp2_with fail
      go_end0
      exact ⟨⟨_, rfl⟩, HJx'.out⟩
end Go.Proofs.Ytlokeimfmbgigaa.Bk
