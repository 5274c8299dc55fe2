/- What the helpers of package block do: the iterator over pieces, and combining. -/
import Derived.Test.YtdflgjgoikofaaaR3
import Derived.Test.YtdflgjgoikofaaaZ1
import Derived.Outline
import Derived.RangeFuncNested
import Derived.RangeFuncBound
import Derived.Deep.Draws
import Derived.Sort.QuietIn
import Derived.OwnWalkIn
import Derived.RangeFuncCalls
import Derived.RangeFuncLeaves
import Derived.Shelf.Abstract
import Derived.Shelf.RegionOpen
import Derived.WalkKit
import Derived.TacticsInMore
import Derived.LoopNIn
import Derived.LoopIn
import Derived.Laws.EntriesVeiled
import Derived.Sort.LoopGhostIn
import Derived.Sort.CutIn
import Derived.RangeFuncBox
set_option linter.unusedVariables false
set_option linter.unusedSimpArgs false
namespace Go.Proofs.Ytdflgjgoikofaaa.Bk
open Go.RowKit Go.Proofs.YtdflgjgoikofaaaW.PrintWords Go.Proofs.YtdflgjgoikofaaaW.PrintLast Go.Proofs.YtdflgjgoikofaaaW.PrintMore
open Go.Proofs.Ytdflgjgoikofaaa.Ref Go.Proofs.Ytdflgjgoikofaaa.Pl

theorem run_min_min {P : Program} (w : World) (ts : Array TypeId) (t : TypeId) (k k' : IntKind) (x y : Int) : (Builtin.min_ ts t #[.int k x, .int k' y]).run P w = .ok (.int k (min x y)) w := by
  rw [run_min_int2]
  congr 2
  split <;> omega
theorem run_max_max {P : Program} (w : World) (ts : Array TypeId) (t : TypeId) (k k' : IntKind) (x y : Int) : (Builtin.max_ ts t #[.int k x, .int k' y]).run P w = .ok (.int k (max x y)) w := by
  rw [run_max_int2]
  congr 2
  split <;> omega

theorem head_cells {w : World} {A : Option Addr} {b : S53} {l : List S53} (h : Kd.C k53 w A (b :: l).length (b :: l)) :
    ∃ ad, A = some ad ∧ w.cell? ad = some (.int .i64 (bF b)) ∧ w.cell? ⟨ad.block, ad.off + 1, none⟩ = some (.int .i64 (bT b)) ∧ w.cell? ⟨ad.block, ad.off + 2, none⟩ = some (.int .i64 (bC b)) := by
  obtain ⟨ad, e, h0, h1, h2⟩ := at_T53 h 0 (by omega) (by simp)
  exact ⟨ad, e, h0, h1, h2⟩

theorem drawn_phi {Φ : World → Prop} (hd : ∀ W n, Φ W → Φ (W.drewN n)) {w w' : World} (h : Drawn0 w w') (hw : Φ w) : Φ w' := by
  obtain ⟨n, rfl⟩ := h
  exact hd _ _ hw

set_option maxHeartbeats 1000000 in
theorem at_calls (Φ : World → Prop) (hd : ∀ W n, Φ W → Φ (W.drewN n)) (l : List S53) (A : Option Addr) (c : Nat) (f : Int) (w : World) (hc : l.length ≤ c) (hw : Φ w) (hl : ∀ W, Φ W → Kd.C k53 W A l.length l) :
    Calls Try.prog 66 #[.slice A l.length c, .int .i64 f] w fun e w' => ∃ A' c' q, e = .returned (.tuple #[.slice A' (atP l f).1.length c', .int .i64 (atP l f).2.1, .int .i64 (atP l f).2.2]) ∧
      (atP l f).1.length ≤ c' ∧ (∀ W, Φ W → Kd.C k53 W A' (atP l f).1.length (atP l f).1) ∧ w' = w.drewN q := by
  have hm := (hl w hw).2.1
  have HD := Aside0.mk hd
  have HW := Aside0.mk hw
  have HL := Aside0.mk hl
  have HM := Aside0.mk hm
  clear hd hw hl hm
  go_enter Try.func66, Try.ntmps66
  go_wp2
  go_loopg [0] l.length (fun kq v0 w' => ∃ (l' : List S53) (A' : Option Addr) (c' : Nat), v0 = .slice A' l'.length c' ∧ Aside0 (l'.length = kq) ∧ Aside0 (atP l' f = atP l f) ∧ Aside0 (l'.length ≤ c' ∧ l'.length ≤ l.length) ∧ Aside0 (∀ W, Φ W → Kd.C k53 W A' l'.length l') ∧ Drawn0 w w')
  case atStart => exact ⟨l, A, c, rfl, ⟨rfl⟩, ⟨rfl⟩, ⟨hc, Nat.le_refl _⟩, ⟨HL.out⟩, Drawn0.refl _⟩
  case round =>
    obtain ⟨l', A', c', rfl, HK, HE, HC, HF, ⟨m1, rfl⟩⟩ := hrel
    cases l' with
    | nil =>
      have h0 : decide ((0 : Int) < 0) = false := rfl
      have E := HE.out
      simp only [atP] at E
      go_wp2
      refine bodyPost_ret (v := .tuple #[.slice none 0 0, .int .i64 (-1), .int .i64 100000000]) (by simp [results, Try.results66, go_sem]) rfl ?_
      exact ⟨none, 0, m1, by rw [← E]; rfl, by rw [← E]; exact Nat.le_refl _, fun W _ => by rw [← E]; exact Kd.C_nil _ _, rfl⟩
    | cons b l' =>
      obtain ⟨ad, rfl, h0, h1, h2⟩ := head_cells (HF.out _ HW.out)
      have hpos : decide ((0 : Int) < (l'.length : Int) + 1) = true := decide_eq_true (by omega)
      have hq := eq_true (show (0 : Int) < (l'.length : Int) + 1 by omega)
      have E := HE.out
      by_cases ht : bT b ≤ f
      · have htb : decide (bT b ≤ f) = true := by simpa using ht
        have hC := HC.out
        simp only [List.length_cons] at hC
        have HF' := HF.out
        simp only [atP, if_pos ht] at E
        have HE' := Aside0.mk E
        have HK' := HK.out
        simp only [List.length_cons] at HK'
        have HK2 := Aside0.mk HK'
        have HC2 := Aside0.mk hC
        have HF2 := Aside0.mk HF'
        clear E HK' HE HK HC HF ht hC HF'
        by_cases hc1 : c' = 1
        · subst hc1
          obtain rfl : l' = [] := List.eq_nil_of_length_eq_zero (by have := HC2.out.1; omega)
          go_wp2
          go_roundg 0
          case measure => have := HK2.out; simp at this; omega
          case rel => exact ⟨[], some ad, 0, rfl, ⟨rfl⟩, HE', ⟨by simp⟩, ⟨fun W hW => ⟨rfl, by simp, fun h => absurd h (by simp)⟩⟩, Drawn0.step (Drawn0.refl _) _⟩
        · have hc1' : (c' == 1) = false := by simpa using hc1
          go_wp2
          go_roundg l'.length
          case measure => have := HK2.out; omega
          case rel => exact ⟨l', some ⟨ad.block, ad.off + 3, none⟩, c' - 1, rfl, ⟨rfl⟩, HE', ⟨by have := HC2.out; omega⟩, ⟨fun W hW => by
              have h := Kd.C_drop (m := 1) (c := c') (HF2.out W hW) (by simp) (by have := HC2.out; simp; omega)
              rw [if_neg hc1] at h
              exact h⟩, Drawn0.step (Drawn0.refl _) _⟩
      · have htb : decide (bT b ≤ f) = false := by simpa using ht
        simp only [atP, if_neg ht] at E
        have hz : (l'.length + 1 == 0) = false := by simp
        have hz2 : ((l'.length : Int) + 1 == 0) = false := by rw [beq_eq_false_iff_ne]; omega
        have HE' := Aside0.mk E
        clear E ht HE
        have hC := HC.out.1
        by_cases hf : f < bF b
        · have hfb : decide (f < bF b) = true := by simpa using hf
          have E := HE'.out
          rw [if_pos hf] at E
          have HE2 := Aside0.mk E
          clear E hf HE'
          go_wp2
          go_quiet (fail)
          go_wp2
          refine bodyPost_ret (v := .tuple #[.slice (some ad) (b :: l').length c', .int .i64 (-1), .int .i64 (bF b)]) (by simp [results, Try.results66, go_sem]) rfl ?_
          exact ⟨some ad, c', _, by rw [← HE2.out], by rw [← HE2.out]; exact HC.out.1, by rw [← HE2.out]; exact HF.out, World.drewN_drewN ..⟩
        · have hfb : decide (f < bF b) = false := by simpa using hf
          have E := HE'.out
          rw [if_neg hf] at E
          have HE2 := Aside0.mk E
          clear E hf HE'
          go_wp2
          go_quiet (fail)
          go_wp2
          refine bodyPost_ret (v := .tuple #[.slice (some ad) (b :: l').length c', .int .i64 (bC b), .int .i64 (bT b)]) (by simp [results, Try.results66, go_sem]) rfl ?_
          exact ⟨some ad, c', _, by rw [← HE2.out], by rw [← HE2.out]; exact HC.out.1, by rw [← HE2.out]; exact HF.out, World.drewN_drewN ..⟩
end Go.Proofs.Ytdflgjgoikofaaa.Bk

namespace Go.Proofs.Ytdflgjgoikofaaa.Bk
open Go.RowKit Go.Proofs.YtdflgjgoikofaaaW.PrintWords Go.Proofs.YtdflgjgoikofaaaW.PrintLast Go.Proofs.YtdflgjgoikofaaaW.PrintMore
open Go.Proofs.Ytdflgjgoikofaaa.Ref Go.Proofs.Ytdflgjgoikofaaa.Pl

def cells3 (b : S53) : List Value := [.int .i64 (bF b), .int .i64 (bT b), .int .i64 (bC b)]
def flat (l : List S53) : List Value := l.flatMap cells3
theorem flat_nil : flat [] = [] := rfl
theorem flat_cons (b : S53) (l : List S53) : flat (b :: l) = .int .i64 (bF b) :: .int .i64 (bT b) :: .int .i64 (bC b) :: flat l := rfl
theorem flat_len (l : List S53) : (flat l).length = l.length * 3 := by
  induction l with
  | nil => rfl
  | cons b l ih => rw [flat_cons]; simp only [List.length_cons, ih]; omega
theorem flat_append (l m : List S53) : flat (l ++ m) = flat l ++ flat m := by simp [flat]
theorem flat_snoc (l : List S53) (b : S53) : flat (l ++ [b]) = flat l ++ cells3 b := by rw [flat_append]; simp [flat]
theorem flat_get (l : List S53) : ∀ (i : Nat), i < l.length → (flat l)[i * 3]? = some (.int .i64 (bF (l.getD i z53))) ∧ (flat l)[i * 3 + 1]? = some (.int .i64 (bT (l.getD i z53))) ∧ (flat l)[i * 3 + 2]? = some (.int .i64 (bC (l.getD i z53))) := by
  induction l with
  | nil => intro i h; simp at h
  | cons b l ih =>
    intro i h
    rw [flat_cons]
    cases i with
    | zero => exact ⟨rfl, rfl, rfl⟩
    | succ i =>
      have := ih i (by simpa using h)
      rw [show (i + 1) * 3 = i * 3 + 1 + 1 + 1 by omega]
      simp only [List.getElem?_cons_succ, List.getD_cons_succ]
      exact this
theorem flat_set (l : List S53) : ∀ (i : Nat) (t : Int), i < l.length → flat (l.set i ⟨⟨bF (l.getD i z53), t⟩, bC (l.getD i z53)⟩) = (flat l).set (i * 3 + 1) (.int .i64 t) := by
  induction l with
  | nil => intro i t h; simp at h
  | cons b l ih =>
    intro i t h
    cases i with
    | zero => rfl
    | succ i =>
      have := ih i t (by simpa using h)
      rw [show (i + 1) * 3 + 1 = (i * 3 + 1) + 1 + 1 + 1 by omega]
      simp only [List.set_cons_succ, List.getD_cons_succ, flat_cons]
      rw [this]
theorem flat_one (l : List S53) : ∀ u ∈ flat l, u.oneCell' = true := by
  induction l with
  | nil => intro u h; simp [flat] at h
  | cons b l ih =>
    intro u h
    rw [flat_cons] at h
    simp only [List.mem_cons] at h
    rcases h with rfl | rfl | rfl | h
    · rfl
    · rfl
    · rfl
    · exact ih u h
theorem reps_flat (w : World) (base : Nat) (ok : Nat → Prop) (l : List S53) : Reps (k53.M w base ok) 3 l (flat l) := by
  induction l with
  | nil => exact Reps.none _ _
  | cons b l ih =>
    refine ⟨flat_len _, fun j p hj => ?_⟩
    cases j with
    | zero =>
      simp only [List.getElem?_cons_zero, Option.some.injEq] at hj
      subst hj
      rw [flat_cons]
      exact k53_mkM _ _ _ _
    | succ j =>
      have := ih.2 j p (by simpa using hj)
      rw [flat_cons, show (j + 1) * 3 = j * 3 + 1 + 1 + 1 by omega]
      exact this
theorem R_of_flat {w : World} {base : Nat} {v : Value} {l : List S53} (h : w.ownsRow base 53 3 v l.length (flat l)) : Kd.R k53 53 w base (fun _ => True) v l :=
  ⟨fun _ _ => trivial, flat l, h, reps_flat _ _ _ _⟩
theorem heap53 : Kd.Heap k53 := Kd.heap_iso _ (Kd.heap_pair (Kd.heap_iso _ (Kd.heap_pair (Kd.heap_int _) (Kd.heap_int _))) (Kd.heap_int _))
theorem C_same {w X : World} {A : Option Addr} {l : List S53} (h : Kd.C k53 w A l.length l) (hX : ∀ k, k < w.heap.size → X.heap[k]? = w.heap[k]?) : Kd.C k53 X A l.length l := heap53.C hX h
theorem flat_last (l : List S53) (h : 0 < l.length) : (flat l)[(l.length - 1) * 3]? = some (.int .i64 (bF (lastB l))) ∧ (flat l)[(l.length - 1) * 3 + 1]? = some (.int .i64 (bT (lastB l))) ∧ (flat l)[(l.length - 1) * 3 + 2]? = some (.int .i64 (bC (lastB l))) := by
  have e : lastB l = l.getD (l.length - 1) z53 := by unfold lastB rd_T53; rw [show ((l.length : Int) - 1).toNat = l.length - 1 by omega]
  rw [e]
  exact flat_get l _ (by omega)
theorem flat_set_last (l : List S53) (t : Int) (h : 0 < l.length) : flat (l.set (l.length - 1) ⟨⟨bF (lastB l), t⟩, bC (lastB l)⟩) = (flat l).set ((l.length - 1) * 3 + 1) (.int .i64 t) := by
  have e : lastB l = l.getD (l.length - 1) z53 := by unfold lastB rd_T53; rw [show ((l.length : Int) - 1).toNat = l.length - 1 by omega]
  rw [e]
  exact flat_set l _ _ (by omega)
end Go.Proofs.Ytdflgjgoikofaaa.Bk

namespace Go.Proofs.Ytdflgjgoikofaaa.Rg
open Go Go.RowKit

/-- From A to B blocks have been laid, and of the elder ones only those of `own` have turned. -/
structure Turned (own : Nat → Prop) (A B : World) : Prop where
  os : B.os = A.os
  tape : B.tape = A.tape
  output : B.output = A.output
  size : A.heap.size ≤ B.heap.size
  block : ∀ k, k < A.heap.size → ¬ own k → B.heap[k]? = A.heap[k]?

section
variable {own own' : Nat → Prop} {A B C : World}
theorem Turned.refl (own : Nat → Prop) (A : World) : Turned own A A := ⟨rfl, rfl, rfl, Nat.le_refl _, fun _ _ _ => rfl⟩
theorem Turned.trans (h : Turned own A B) (k : Turned own B C) : Turned own A C :=
  ⟨k.os.trans h.os, k.tape.trans h.tape, k.output.trans h.output, Nat.le_trans h.size k.size, fun i hi hn => (k.block i (Nat.lt_of_lt_of_le hi h.size) hn).trans (h.block i hi hn)⟩
theorem Turned.mono (h : Turned own A B) (ho : ∀ k, own k → own' k) : Turned own' A B := ⟨h.os, h.tape, h.output, h.size, fun k hk hn => h.block k hk (fun x => hn (ho k x))⟩
theorem Turned.below (h : Below A.heap.size A B) : Turned own A B := ⟨h.os, h.tape, h.output, h.size, fun k hk _ => h.block k hk⟩
theorem Turned.then_below (h : Turned own A B) (k : Below B.heap.size B C) : Turned own A C := h.trans (Turned.below k)
theorem Turned.alloc (h : Turned own A B) (o : Obj) : Turned own A (B.alloc o) := h.trans (Turned.below ((Below.refl _ _).alloc (Nat.le_refl _) o))
theorem Turned.drew (h : Turned own A B) : Turned own A B.drew := ⟨h.os, h.tape, h.output, h.size, h.block⟩
theorem Turned.drewN (h : Turned own A B) (n : Nat) : Turned own A (B.drewN n) := ⟨h.os, h.tape, h.output, h.size, h.block⟩
theorem Turned.setCell (h : Turned own A B) {p : Addr} (hp : own p.block ∨ A.heap.size ≤ p.block) (u : Value) : Turned own A (B.setCell p u) :=
  ⟨h.os, h.tape, h.output, by simpa [World.setCell] using h.size, fun k hk hn => (Below.heap_setCell B p u k (by
    rintro rfl
    rcases hp with hp | hp
    · exact hn hp
    · omega)).trans (h.block k hk hn)⟩
theorem Turned.cell (h : Turned own A B) {p : Addr} (hp : p.block < A.heap.size) (hn : ¬ own p.block) : B.cell? p = A.cell? p := World.cell?_of_block (h.block p.block hp hn)
end

/-- The blocks of `kept` lie as they lay. -/
structure Keeps (kept : Nat → Prop) (A B : World) : Prop where
  size : A.heap.size ≤ B.heap.size
  block : ∀ k, kept k → B.heap[k]? = A.heap[k]?
section
variable {kept : Nat → Prop} {A B C : World}
theorem Keeps.refl (kept : Nat → Prop) (A : World) : Keeps kept A A := ⟨Nat.le_refl _, fun _ _ => rfl⟩
theorem Keeps.trans (h : Keeps kept A B) (k : Keeps kept B C) : Keeps kept A C := ⟨Nat.le_trans h.size k.size, fun i hi => (k.block i hi).trans (h.block i hi)⟩
theorem Keeps.of_turned {own : Nat → Prop} (h : Turned own A B) (hk : ∀ k, kept k → k < A.heap.size ∧ ¬ own k) : Keeps kept A B := ⟨h.size, fun k hkk => h.block k (hk k hkk).1 (hk k hkk).2⟩
theorem Keeps.putObj (W : World) (l : Nat) (o : Obj) (hl : ¬ kept l) : Keeps kept W (W.putObj l o) := ⟨by simp, fun k hk => World.putObj_heap_other (fun e => hl (e ▸ hk))⟩
theorem Keeps.cell (h : Keeps kept A B) {p : Addr} (hp : kept p.block) : B.cell? p = A.cell? p := World.cell?_of_block (h.block p.block hp)
theorem Keeps.alloc (h : Keeps kept A B) (hk : ∀ k, kept k → k < A.heap.size) (o : Obj) : Keeps kept A (B.alloc o) :=
  h.trans ⟨by simp, fun k hkk => Below.heap_alloc B o k (Nat.lt_of_lt_of_le (hk k hkk) h.size)⟩
theorem Keeps.setCell (h : Keeps kept A B) {p : Addr} (hp : ¬ kept p.block) (u : Value) : Keeps kept A (B.setCell p u) :=
  h.trans ⟨by simp [World.setCell], fun k hkk => Below.heap_setCell B p u k (fun e => hp (e ▸ hkk))⟩
theorem Keeps.drew (h : Keeps kept A B) : Keeps kept A B.drew := ⟨h.size, h.block⟩
theorem Keeps.drewN (h : Keeps kept A B) (n : Nat) : Keeps kept A (B.drewN n) := ⟨h.size, h.block⟩
theorem Keeps.mono {kept' : Nat → Prop} (h : Keeps kept A B) (hk : ∀ k, kept' k → kept k) : Keeps kept' A B := ⟨h.size, fun k hkk => h.block k (hk k hkk)⟩
end

/-- Blocks of `own` may have turned, and blocks from B0 on that hold no cells (a loop's records). -/
structure TurnedL (own : Nat → Prop) (B0 : Nat) (A B : World) : Prop where
  os : B.os = A.os
  tape : B.tape = A.tape
  output : B.output = A.output
  size : A.heap.size ≤ B.heap.size
  block : ∀ k, k < A.heap.size → ¬ own k → (k < B0 ∨ ∃ o : Obj, A.heap[k]? = some o ∧ o.isCells = true) → B.heap[k]? = A.heap[k]?
section
variable {own : Nat → Prop} {B0 : Nat} {A B C : World}
theorem TurnedL.of (h : Turned own A B) : TurnedL own B0 A B := ⟨h.os, h.tape, h.output, h.size, fun k hk hn _ => h.block k hk hn⟩
theorem TurnedL.putObj (W : World) {l : Nat} {o : Obj} (o' : Obj) (hl : W.heap[l]? = some o) (ho : o.isCells = false) (hB : B0 ≤ l) : TurnedL own B0 W (W.putObj l o') :=
  ⟨rfl, rfl, rfl, by simp, fun k _ _ hc => World.putObj_heap_other (fun e => by
    subst e
    rcases hc with h | ⟨o2, h2, h3⟩
    · omega
    · rw [hl] at h2; cases h2; rw [ho] at h3; cases h3)⟩
theorem TurnedL.cells (h : TurnedL own B0 A B) {k : Nat} {cs : Array Value} {t : TypeId} {fz : Nat × Nat} (hk : A.heap[k]? = some (.cells cs t fz)) (hn : ¬ own k) : B.heap[k]? = some (.cells cs t fz) :=
  (h.block k (Array.getElem?_eq_some_iff.1 hk).1 hn (.inr ⟨_, hk, rfl⟩)).trans hk
end

/-- An iterator's contract: it yields the elements one after the other, `Pre` says which lists may have come, `Fin` which are all; its own state lies in the blocks `own`; a round keeps the blocks `kept`; N bounds the rounds. -/
def SeqOwn {α : Type} (F : Fence) (n : Nat) (P : Program) (g : Nat) (lb : Array Value) (encs : α → Array Value) (own kept : Nat → Prop) (Pre Fin : List α → Prop) (W : World) : Prop :=
  ∀ (l N : Nat) (J Jx : List α → World → Prop), (∀ s A B, J s A → Turned own A B → J s B) → (∀ s A B, Jx s A → Turned own A B → Jx s B) →
    (∀ pre W1, J pre W1 → pre.length ≤ N) →
    (∀ pre x W1, J pre W1 → Pre (pre ++ [x]) → YieldAt F (n - 1) P l (encs x) W1 fun e W' =>
      (e = .returned (.bool true) ∧ J (pre ++ [x]) W' ∧ Keeps kept W1 W') ∨ (e = .returned (.bool false) ∧ Jx (pre ++ [x]) W')) →
    J [] W →
    CallsIn F n P g (#[.func (.yield l) #[] #[]] ++ lb) W fun e W' => (∃ v, e = .returned v) ∧ ((∃ xs, Fin xs ∧ J xs W') ∨ (∃ pre, Pre pre ∧ Jx pre W'))

/-- How the body of a round may be left. -/
def roundEnd {α : Type} (B : Nat) (kept : Nat → Prop) (I : List α → World → Prop) (Ix : Code → List α → World → Prop) (xs : List α) (W : World) : Exit → Act → World → Prop
  | .normal, _, W' => KeepsFrom B W W' ∧ Keeps kept W W' ∧ I xs W'
  | .ret, _, W' => KeepsFrom B W W' ∧ Ix .ret xs W'
  | .exit id, _, W' => KeepsFrom B W W' ∧ Ix (.exit id) xs W'
  | .goto t, _, W' => KeepsFrom B W W' ∧ Ix (.goto t) xs W'
  | .panic _, _, _ => False
  | .outgrown, _, _ => False

variable {F : Fence} {n : Nat} {P : Program}

theorem wpIn_range {α : Type} {g : Operand} {ps : Array Tmp} {assign body : Code} {Q : Exit → Act → World → Prop} {a : Act} {w : World}
    (hro : F.round = none) (h1 : 1 ≤ n) {gf : Nat} {lb : Array Value} (hg : a.eval g = .func (.func gf) #[] lb) (hFg : F.fn gf) (eg : ∀ args w, (callFunc gf args).run P w = .ok (.enter gf args) w)
    {encs : α → Array Value} {own kept : Nat → Prop} {Pre Fin : List α → Prop} (N : Nat) (hown : ∀ k, own k → k < w.heap.size) (hkept : ∀ k, kept k → k < w.heap.size)
    (hseq : ∀ W, Turned (fun _ => False) w W → SeqOwn F (n - 1) P gf lb encs own kept Pre Fin W) (hps : ∀ x, (encs x).size = ps.size)
    (I : List α → World → Prop) (Ix : Code → List α → World → Prop)
    (hI : ∀ s A B, I s A → TurnedL own w.heap.size A B → I s B) (hIx : ∀ c s A B, Ix c s A → TurnedL own w.heap.size A B → Ix c s B)
    (hN : ∀ pre W, I pre W → pre.length ≤ N) (h0 : I [] w)
    (hround : ∀ (l : Nat) (pre : List α) (x : α) (W : World), w.heap.size ≤ l → (∃ r, W.heap[l]? = some (.loop r)) → I pre W → Pre (pre ++ [x]) →
      assign.wpIn (F.inRound l) (n - 1 - 1) P (Exit.then (fun a' W' => KeepsFrom w.heap.size W W' ∧ Keeps kept W W' ∧
        ∀ W2, TurnedL own w.heap.size W' W2 → W2.heap.size = W'.heap.size → body.wpIn (F.inRound l) (n - 1 - 1) P (roundEnd w.heap.size kept I Ix (pre ++ [x]) W2) a' W2) (fun _ _ _ => False))
        { tmps := (ps.zip (encs x)).foldl (fun t (p, v) => t.setIfInBounds p v) a.tmps, defers := [] } W)
    (hdone : ∀ (D : Nat) (xs : List α) (W : World), w.heap.size ≤ D → Fin xs → I xs W → W.heap[D]? = some (.deferred (some [])) → Q .normal { a with defers := { target := .collected D, args := #[] } :: a.defers } W)
    (hstop : ∀ (D : Nat) (c : Code) (pre : List α) (W : World), w.heap.size ≤ D → Pre pre → Ix c pre W → W.heap[D]? = some (.deferred (some [])) → c.wpIn F n P Q { a with defers := { target := .collected D, args := #[] } :: a.defers } W) :
    (Code.rangeFunc g ps assign body).wpIn F n P Q a w := by
  refine wpIn_rangeFunc ?_
  intro fn hfn
  rw [hro]
  obtain ⟨rec, hrec⟩ : ∃ rec : LoopState → Option Code → Loop, rec = fun st pe => { state := st, pending := pe, fn, tmps := a.tmps, params := ps, assign, body, defers := w.heap.size } := ⟨_, rfl⟩
  obtain ⟨W1, hW1⟩ : ∃ W1, (w.alloc (.deferred (some []))).alloc (.loop (rec .ready none)) = W1 := ⟨_, rfl⟩
  have hL1 : W1.heap[w.heap.size + 1]? = some (.loop (rec .ready none)) := by
    rw [← hW1]; have := World.alloc_heap_new (w.alloc (.deferred (some []))) (.loop (rec .ready none)); rwa [World.size_alloc] at this
  have hK1 : W1.heap[w.heap.size]? = some (.deferred (some [])) := by
    rw [← hW1]; exact (Below.heap_alloc _ _ _ (by simp)).trans (World.alloc_heap_new w _)
  have hT1 : ∀ o, Turned o w W1 := fun o => by rw [← hW1]; exact ((Turned.refl o w).alloc _).alloc _
  have hI1 : I [] W1 := hI _ _ _ h0 (TurnedL.of (hT1 _))
  refine ⟨w.heap.size + 1, [{ target := .collected w.heap.size, args := #[] }], W1, { target := .fn (.func gf) lb, args := #[.func (.yield (w.heap.size + 1)) #[] #[]] }, W1, gf,
    #[.func (.yield (w.heap.size + 1)) #[] #[]] ++ lb, W1, ?_, ?_, ?_, ?_, fun _ => h1, ?_⟩
  · rw [← hW1, hrec]; exact run_enterLoop_outer _ _ _ _ _
  · simp only [resolve, hg]
    simp [go_sem]
  · intro f' hf'; simp [Target.leads] at hf'; subst hf'; exact hFg
  · simp [invoke, go_sem, eg]
  · have hst : ∀ {A B : World} {k : Nat} {o : Obj}, Turned own A B → w.heap.size ≤ k → A.heap[k]? = some o → B.heap[k]? = some o := fun hT hk ho =>
      (hT.block _ (Array.getElem?_eq_some_iff.1 ho).1 (fun hk' => by have := hown _ hk'; omega)).trans ho
    refine (hseq W1 (hT1 _) (w.heap.size + 1) N
      (fun pre W => I pre W ∧ W.heap[w.heap.size + 1]? = some (.loop (rec .ready none)) ∧ W.heap[w.heap.size]? = some (.deferred (some [])))
      (fun pre W => ∃ c, Ix c pre W ∧ W.heap[w.heap.size + 1]? = some (.loop (rec .done (some c))) ∧ W.heap[w.heap.size]? = some (.deferred (some [])))
      (fun s A B hs hT => ⟨hI s A B hs.1 (TurnedL.of hT), hst hT (by omega) hs.2.1, hst hT (by omega) hs.2.2⟩)
      (fun s A B hs hT => by
        obtain ⟨c, hc, hl, hk⟩ := hs
        exact ⟨c, hIx c s A B hc (TurnedL.of hT), hst hT (by omega) hl, hst hT (by omega) hk⟩)
      (fun pre W hj => hN pre W hj.1)
      ?_ ⟨hI1, hL1, hK1⟩).mono ?_
    · -- one round
      rintro pre x W ⟨hi, hl, hk⟩ hlen
      have hy := run_yield (P := P) (args := encs x) hl (by rw [hrec]; exact hps x)
      rw [hrec] at hy
      refine ⟨fn, _, assign, body, hy, roundIn_of_wpIn hfn (wpIn_mono (hround (w.heap.size + 1) pre x W (by omega) ⟨_, hl⟩ hi hlen) ?_)⟩
      clear hy
      intro e a' Wa he
      cases e with
      | normal =>
        obtain ⟨hkfa, hkpa, hbody⟩ := he
        have hl' := hkfa.same _ _ (by omega) hl rfl
        have hk' := hkfa.same _ _ (Nat.le_refl _) hk rfl
        have hlt : w.heap.size + 1 < Wa.heap.size := (Array.getElem?_eq_some_iff.1 hl').1
        refine ⟨_, run_beginRound hl' (by rw [hrec]), ?_⟩
        have hl2 : (Wa.putObj (w.heap.size + 1) (.loop { rec .ready none with state := .busy })).heap[w.heap.size + 1]? = some (.loop { rec .ready none with state := .busy }) := World.putObj_heap_same hlt
        have hk2 : (Wa.putObj (w.heap.size + 1) (.loop { rec .ready none with state := .busy })).heap[w.heap.size]? = some (.deferred (some [])) := (World.putObj_heap_other (by omega)).trans hk'
        have hnk : ¬ kept (w.heap.size + 1) := fun hc => by have := hkept _ hc; omega
        have hw2 : Keeps kept Wa (Wa.putObj (w.heap.size + 1) (.loop { rec .ready none with state := .busy })) := Keeps.putObj _ _ _ hnk
        refine wpIn_mono (hbody _ (TurnedL.putObj _ _ hl' rfl (by omega)) (by simp)) ?_
        have fin : ∀ (jump : Option Code) (W3 : World), KeepsFrom w.heap.size (Wa.putObj (w.heap.size + 1) (.loop { rec .ready none with state := .busy })) W3 →
            (Instr.endRound (w.heap.size + 1) jump).run P W3 = .ok (.bool jump.isNone) (W3.putObj (w.heap.size + 1) (.loop (rec (if jump.isNone then .ready else .done) jump))) ∧
            W3.heap[w.heap.size + 1]? = some (.loop { rec .ready none with state := .busy }) ∧
            (W3.putObj (w.heap.size + 1) (.loop (rec (if jump.isNone then .ready else .done) jump))).heap[w.heap.size + 1]? = some (.loop (rec (if jump.isNone then .ready else .done) jump)) ∧
            (W3.putObj (w.heap.size + 1) (.loop (rec (if jump.isNone then .ready else .done) jump))).heap[w.heap.size]? = some (.deferred (some [])) := fun jump W3 hk3 => by
          have hl3 := hk3.same _ _ (by omega) hl2 rfl
          have := run_endRound (P := P) jump hl3
          rw [hrec] at this ⊢
          exact ⟨this, by rw [hrec] at hl3; exact hl3, World.putObj_heap_same (Array.getElem?_eq_some_iff.1 hl3).1, (World.putObj_heap_other (by omega)).trans (hk3.same _ _ (Nat.le_refl _) hk2 rfl)⟩
        rintro e a3 W3 hp
        cases e with
        | normal =>
          obtain ⟨hk3, hkp3, hi3⟩ := hp
          obtain ⟨hr, hl3, hl4, hk4⟩ := fin none W3 hk3
          exact ⟨_, _, hr, .inl ⟨rfl, ⟨hI _ _ _ hi3 (TurnedL.putObj _ _ hl3 rfl (by omega)), hl4, hk4⟩, hkpa.trans ((hw2.trans hkp3).trans (Keeps.putObj _ _ _ hnk))⟩⟩
        | ret =>
          obtain ⟨hk3, hi3⟩ := hp
          obtain ⟨hr, hl3, hl4, hk4⟩ := fin (some .ret) W3 hk3
          exact ⟨_, _, hr, .inr ⟨rfl, .ret, hIx _ _ _ _ hi3 (TurnedL.putObj _ _ hl3 rfl (by omega)), hl4, hk4⟩⟩
        | exit id =>
          obtain ⟨hk3, hi3⟩ := hp
          obtain ⟨hr, hl3, hl4, hk4⟩ := fin (some (.exit id)) W3 hk3
          exact ⟨_, _, hr, .inr ⟨rfl, .exit id, hIx _ _ _ _ hi3 (TurnedL.putObj _ _ hl3 rfl (by omega)), hl4, hk4⟩⟩
        | goto t =>
          obtain ⟨hk3, hi3⟩ := hp
          obtain ⟨hr, hl3, hl4, hk4⟩ := fin (some (.goto t)) W3 hk3
          exact ⟨_, _, hr, .inr ⟨rfl, .goto t, hIx _ _ _ _ hi3 (TurnedL.putObj _ _ hl3 rfl (by omega)), hl4, hk4⟩⟩
        | panic ch => exact hp.elim
        | outgrown => exact hp.elim
      | exit id => exact he.elim
      | goto l => exact he.elim
      | ret => exact he.elim
      | panic chain => exact he.elim
      | outgrown => exact he.elim
    · -- behind the iterator
      rintro e W2 ⟨⟨v, rfl⟩, (⟨xs, hS, hi, hl, hk⟩ | ⟨pre, hSp, c, hi, hl, hk⟩)⟩
      · exact ⟨none, _, by have := run_endLoop (P := P) hl (by rw [hrec]; simp); rw [hrec] at this; exact this, hdone _ xs _ (Nat.le_refl _) hS (hI _ _ _ hi (TurnedL.putObj _ _ hl rfl (by omega))) ((World.putObj_heap_other (by omega)).trans hk)⟩
      · exact ⟨some c, _, by have := run_endLoop (P := P) hl (by rw [hrec]; simp); rw [hrec] at this; exact this, hstop _ c pre _ (Nat.le_refl _) hSp (hIx _ _ _ _ hi (TurnedL.putObj _ _ hl rfl (by omega))) ((World.putObj_heap_other (by omega)).trans hk)⟩


/-! ### A region that draws its order and only reads, within a round -/
section quiet
variable {ops : Array Oper} {md : Region.Mode} {C : World → Prop}
def plainOp (o : Oper) : Bool := match o.op with
  | .defer _ => false
  | _ => true
theorem plainOp_ne {o : Oper} (h : plainOp o = true) : ∀ c, o.op ≠ .defer c := by
  intro c hc
  simp [plainOp, hc] at h
theorem wpIn_of_quietR {o : Oper} {a : Act} {K : Act → Prop} {K' : Act → World → Prop} {Q' : Exit → Act → World → Prop} {w : World} (hnd : plainOp o = true) (hw : C w) (h : ∀ a w', C w' → K a → K' a w')
    (ha : o.askedIn F P a C) (hh : o.quietIn F n P a C K) : o.wpIn F n P a w K' Q' := by
  obtain ⟨v, h1, h2⟩ := hh
  have h3 := h1 w hw
  unfold Oper.quietAtIn at h3
  unfold Oper.wpIn
  refine ⟨ha w hw, ?_⟩
  rw [Oper.semAt_plain F _ _ (plainOp_ne hnd)]
  generalize (execOp a.eval o).run P w = r at *
  cases r with
  | ok x w' =>
    cases x <;> simp only [Oper.quietUponIn] at h3 <;> simp only [Oper.uponIn]
    case value u =>
      obtain ⟨e1, e2⟩ := h3
      rw [e1, e2]
      exact h _ _ hw h2
    case skip =>
      obtain ⟨e1, e2⟩ := h3
      rw [e1, ← e2]
      exact h _ _ hw h2
    case enter f args =>
      obtain ⟨e1, hd, hc⟩ := h3
      rw [e1]
      exact ⟨hd, hc.mono fun e w'' ⟨he, hw''⟩ => by subst he; exact h _ _ hw'' h2⟩
  | halt x w' => simp only [Oper.quietUponIn] at h3
theorem wpOpIn_of_quietR {i : Nat} {a : Act} {K : Act → Prop} {K' : Act → World → Prop} {Q' : Exit → Act → World → Prop} {w : World} (hnd : ops.toList.all plainOp = true) (hC : C w) (h : ∀ a w', C w' → K a → K' a w')
    (hh : qOpIn F n P ops C i K a) : wpOpIn F n P ops Q' i K' a w := by
  unfold qOpIn at hh
  unfold wpOpIn
  split
  · rename_i ho; simp only [ho] at hh; exact h _ _ hC hh
  · rename_i o ho
    simp only [ho] at hh
    obtain ⟨ha, hh⟩ := hh
    have hp : plainOp o = true := by
      refine List.all_eq_true.1 hnd o ?_
      obtain ⟨hlt, he⟩ := Array.getElem?_eq_some_iff.1 ho
      rw [← he]
      exact Array.getElem_mem_toList ..
    split
    · rename_i hw; simp only [hw, if_true] at hh; exact wpIn_of_quietR hp hC h ha hh
    · rename_i hw; simp only [hw] at hh; exact ⟨ha w hC, h _ _ hC hh⟩
theorem wpAnyIn_of_quietR {Q : Act → Prop} {Q' : Exit → Act → World → Prop} (hnd : ops.toList.all plainOp = true) (hQ : ∀ a w, C w → Q a → Q' .normal a w) : ∀ (fuel : Nat) (listed : Array Bool) (a : Act) (w : World), C w →
    wpAnyQIn F n P md ops C Q fuel listed a → wpAnyIn F n P md ops Q' fuel listed a w
  | 0, _, _, _, hw, h => ⟨h.1, hQ _ _ hw h.2⟩
  | fuel + 1, _, _, _, hw, h => ⟨fun h0 => hQ _ _ hw (h.1 h0), fun i hi => wpOpIn_of_quietR hnd hw (fun a' w' hw' => wpAnyIn_of_quietR hnd hQ fuel _ a' w' hw') (h.2 i hi)⟩
theorem wpIn_region_quietR {id : Nat} {Q : Exit → Act → World → Prop} {a : Act} {w : World} {l : List Oper} (hm : P.follows .mixedOrders = true) (hB : Region.lexB .any l.toArray = true) (hnd : l.all plainOp = true)
    (h : wpQuietIn F n P l.toArray (fun w' => ∃ n, w' = w.drewN n) (fun a' => ∀ w', (∃ n, w' = w.drewN n) → Q .normal a' w') l a) : (Code.region id l.toArray true).wpIn F n P Q a w := by
  simp only [Region.lexB, Bool.and_eq_true] at hB
  refine wpIn_region_any hm (wpAnyIn_of_quietR (C := fun w' => ∃ n, w' = w.drewN n) (Q := fun a' => ∀ w', (∃ n, w' = w.drewN n) → Q .normal a' w') (by simpa using hnd) (fun _ w' hw' h => h w' hw') _ _ _ _ ⟨1, rfl⟩ ?_)
  have := wpAnyQIn_lex (F := F) (n := n) (C := fun w' => ∃ n, w' = w.drewN n) (md := .any) hB.1 l 0 (Array.replicate l.toArray.size false) a (by simp) (by simpa using hB.2) h
  simpa using this
end quiet
end Go.Proofs.Ytdflgjgoikofaaa.Rg

namespace Go.Proofs.Ytdflgjgoikofaaa.Bk
open Go.RowKit Go.Proofs.YtdflgjgoikofaaaW.PrintWords Go.Proofs.YtdflgjgoikofaaaW.PrintLast Go.Proofs.YtdflgjgoikofaaaW.PrintMore
open Go.Proofs.Ytdflgjgoikofaaa.Ref Go.Proofs.Ytdflgjgoikofaaa.Pl Go.Proofs.Ytdflgjgoikofaaa.Rg
attribute [local go_sem high] run_min_min run_max_max
attribute [local go_sem] Oper.semAt_some

theorem pieces_calls (A B : Option Addr) (m1 c1 m2 c2 : Nat) (w : World) :
    Calls Try.prog 57 #[.slice A m1 c1, .slice B m2 c2] w fun e w' =>
      e = .returned (.func (.func 67) #[] #[.pointer (some ⟨w.heap.size + 2, 0, none⟩), .pointer (some ⟨w.heap.size, 0, none⟩), .pointer (some ⟨w.heap.size + 1, 0, none⟩)]) ∧
      w' = ((w.alloc (.cells #[.slice A m1 c1] 24)).alloc (.cells #[.slice B m2 c2] 24)).alloc (.cells #[.func (.func 66) #[] #[]] 78) := by
  go_enter Try.func57, Try.ntmps57
  go_wp2
  go_ret
  exact ⟨rfl, rfl⟩

def encP (p : Pc) : Array Value := #[.agg #[.int .i64 p.f, .int .i64 p.t], .agg #[.int .i64 p.x, .int .i64 p.y]]

set_option maxHeartbeats 2000000 in
theorem pieces_seq (n : Nat) (W : World) (AT A B n₀ fuel : Nat) (a b : List S53) (L : List Pc) (Aa Ab : Option Addr) (ca cb : Nat)
    (hA : W.heap[A]? = some (.cells #[.slice Aa a.length ca] 24 (0, 0))) (hB : W.heap[B]? = some (.cells #[.slice Ab b.length cb] 24 (0, 0)))
    (hT : W.heap[AT]? = some (.cells #[.func (.func 66) #[] #[]] 78 (0, 0))) (hAB : A ≠ B) (hAT : A ≠ AT) (hBT : B ≠ AT) (h0A : n₀ ≤ A) (h0B : n₀ ≤ B) (h0T : n₀ ≤ AT)
    (hca : a.length ≤ ca) (hcb : b.length ≤ cb) (Φ : World → Prop) (hΦ : ∀ X Y : World, Φ X → (∀ k, k < n₀ → Y.heap[k]? = X.heap[k]?) → Φ Y) (hW : Φ W)
    (ha : ∀ X, Φ X → Kd.C k53 X Aa a.length a) (hb : ∀ X, Φ X → Kd.C k53 X Ab b.length b) (hL : pcs fuel a b 0 = some L) :
    SeqOwn Fence.wide n Try.prog 67 #[.pointer (some ⟨AT, 0, none⟩), .pointer (some ⟨A, 0, none⟩), .pointer (some ⟨B, 0, none⟩)] encP
      (fun k => k = A ∨ k = B) (fun k => k < n₀ ∨ k = A ∨ k = B ∨ k = AT) (· <+: L) (· = L) W := by
  intro l N J Jx hJ hJx _ hY h0
  refine callsIn_of_wp Try.func67 rfl trivial ?_ rfl
  simp only [Try.ntmps67, List.size_toArray, List.length_cons, List.length_nil, Nat.reduceAdd, Nat.reduceSub, Array.replicate_succ, Array.replicate_zero, List.push_toArray, List.append_toArray, List.nil_append, List.cons_append]
  gi_wp2
  gi_loopg [5] fuel (fun kq v5 wr => ∃ (a' b' : List S53) (Aa' Ab' : Option Addr) (ca' cb' : Nat) (f : Int) (pre rest : List Pc), v5 = .int .i64 f ∧ Aside0 (J pre wr) ∧ Aside0 (L = pre ++ rest) ∧ Aside0 (pcs kq a' b' f = some rest) ∧
    Aside0 (wr.heap[A]? = some (.cells #[.slice Aa' a'.length ca'] 24 (0, 0))) ∧ Aside0 (wr.heap[B]? = some (.cells #[.slice Ab' b'.length cb'] 24 (0, 0))) ∧ Aside0 (wr.heap[AT]? = some (.cells #[.func (.func 66) #[] #[]] 78 (0, 0))) ∧
    Aside0 (a'.length ≤ ca' ∧ b'.length ≤ cb') ∧ Aside0 (Φ wr) ∧ Aside0 (∀ X, Φ X → Kd.C k53 X Aa' a'.length a') ∧ Aside0 (∀ X, Φ X → Kd.C k53 X Ab' b'.length b'))
  case atStart => exact ⟨a, b, Aa, Ab, ca, cb, 0, [], L, rfl, ⟨h0⟩, ⟨rfl⟩, ⟨hL⟩, ⟨hA⟩, ⟨hB⟩, ⟨hT⟩, ⟨hca, hcb⟩, ⟨hW⟩, ⟨ha⟩, ⟨hb⟩⟩
  case round =>
    clear hA hB hT hca hcb hW ha hb hL h0
    obtain ⟨a', b', Aa', Ab', ca', cb', f, pre, rest, rfl, HJ, HL, HP, HA, HB, HT, HC, HW, Ha, Hb⟩ := hrel
    cases gk with
    | zero => exact absurd HP.out (by simp [pcs])
    | succ gk =>
      by_cases hf : f ≤ 99999999
      · have hfb : decide (f ≤ 99999999) = true := decide_eq_true hf
        have hAc : wr.cell? ⟨A, 0, none⟩ = some _ := (blk_cell HA.out 0).trans rfl
        have hBc : wr.cell? ⟨B, 0, none⟩ = some _ := (blk_cell HB.out 0).trans rfl
        have hTc : wr.cell? ⟨AT, 0, none⟩ = some _ := (blk_cell HT.out 0).trans rfl
        have hAf := blk_frozen HA.out 0
        have hBf := blk_frozen HB.out 0
        have hAl := blk_lt HA.out
        have hBl := blk_lt HB.out
        have hTl := blk_lt HT.out
        have hP := HP.out
        simp only [pcs, if_pos hf, Option.map_eq_some_iff] at hP
        obtain ⟨rest', hP, hrest⟩ := hP
        have HP' := Aside0.mk hP
        have HR := Aside0.mk hrest
        clear hP hrest HP hf
        gi_wp2_with fail
        have hΦd : ∀ X m, Φ X → Φ (X.drewN m) := fun X m hX => hΦ X _ hX (fun _ _ => rfl)
        have HΦd := Aside0.mk hΦd
        have hw1 : Φ (wr.alloc (.cells #[.int .i64 0, .int .i64 0] 35)) := hΦ _ _ HW.out (fun k hk => Below.heap_alloc _ _ _ (by omega))
        have HW1 := Aside0.mk hw1
        clear hΦd hw1
        refine ⟨trivial, by simp [Fence.wide], ?_⟩
        refine (callsIn_wide.2 (at_calls Φ HΦd.out a' Aa' ca' f _ HC.out.1 HW1.out Ha.out)).mono ?_
        rintro e w1 ⟨Aa2, ca2, q1, rfl, hca2, ha2, rfl⟩
        have HCA := Aside0.mk hca2
        have HA2 := Aside0.mk ha2
        clear hca2 ha2
        gi_wp2_with fail
        refine ⟨trivial, by simp [Fence.wide], ?_⟩
        have hT2 := (((((Turned.refl (fun k => k = A ∨ k = B) wr).alloc (.cells #[.int .i64 0, .int .i64 0] 35)).drewN q1).setCell (p := ⟨A, 0, none⟩) (.inl (.inl rfl)) (.slice Aa2 (atP a' f).1.length ca2)).setCell (p := ⟨wr.heap.size, 0, none⟩) (.inr (Nat.le_refl _)) (.int .i64 (atP a' f).2.1))
        have hXA := blk_far (blk_put (blk_drewN (blk_alloc HA.out (.cells #[.int .i64 0, .int .i64 0] 35)) q1) 0 (.slice Aa2 (atP a' f).1.length ca2) rfl) (p := ⟨wr.heap.size, 0, none⟩) (by simp; omega) (.int .i64 (atP a' f).2.1)
        have hXB := blk_far (blk_far (blk_drewN (blk_alloc HB.out (.cells #[.int .i64 0, .int .i64 0] 35)) q1) (p := ⟨A, 0, none⟩) (fun h => hAB h.symm) (.slice Aa2 (atP a' f).1.length ca2)) (p := ⟨wr.heap.size, 0, none⟩) (by simp; omega) (.int .i64 (atP a' f).2.1)
        have hXT := blk_far (blk_far (blk_drewN (blk_alloc HT.out (.cells #[.int .i64 0, .int .i64 0] 35)) q1) (p := ⟨A, 0, none⟩) (fun h => hAT h.symm) (.slice Aa2 (atP a' f).1.length ca2)) (p := ⟨wr.heap.size, 0, none⟩) (by simp; omega) (.int .i64 (atP a' f).2.1)
        have hXN := blk_put (blk_far (blk_drewN (blk_new wr (.cells #[.int .i64 0, .int .i64 0] 35)) q1) (p := ⟨A, 0, none⟩) (by simp; omega) (.slice Aa2 (atP a' f).1.length ca2)) 0 (.int .i64 (atP a' f).2.1) rfl
        have hXs : ((((wr.alloc (.cells #[.int .i64 0, .int .i64 0] 35)).drewN q1).setCell ⟨A, 0, none⟩ (.slice Aa2 (atP a' f).1.length ca2)).setCell ⟨wr.heap.size, 0, none⟩ (.int .i64 (atP a' f).2.1)).heap.size = wr.heap.size + 1 := by simp [World.setCell]
        generalize ((((wr.alloc (.cells #[.int .i64 0, .int .i64 0] 35)).drewN q1).setCell ⟨A, 0, none⟩ (.slice Aa2 (atP a' f).1.length ca2)).setCell ⟨wr.heap.size, 0, none⟩ (.int .i64 (atP a' f).2.1)) = X at hT2 hXA hXB hXT hXN hXs ⊢
        have HW2 := Aside0.mk (hΦ _ _ HW.out (fun k hk => hT2.block k (by omega) (by omega)))
        have HT2 := Aside0.mk hT2
        have HXA := Aside0.mk hXA
        have HXB := Aside0.mk hXB
        have HXT := Aside0.mk hXT
        have HXN := Aside0.mk hXN
        have HXs := Aside0.mk hXs
        have kB : X.cell? ⟨B, 0, none⟩ = some _ := (blk_cell hXB 0).trans rfl
        have kBf := blk_frozen hXB 0
        have kN0 : X.cell? ⟨wr.heap.size, 0, none⟩ = some _ := (blk_cell hXN 0).trans rfl
        have kN1 : X.cell? ⟨wr.heap.size, 1, none⟩ = some _ := (blk_cell hXN 1).trans rfl
        have kNf := blk_frozen hXN 1
        have kBN : B < wr.heap.size := blk_lt HB.out
        clear hT2 hXA hXB hXT hXN hXs hAc hBc hTc hAf hBf hAl hBl hTl hfb
        refine (callsIn_wide.2 (at_calls Φ HΦd.out b' Ab' cb' f _ HC.out.2 HW2.out Hb.out)).mono ?_
        rintro e w2 ⟨Ab2, cb2, q2, rfl, hcb2, hb2, rfl⟩
        have HCB := Aside0.mk hcb2
        have HB2 := Aside0.mk hb2
        clear hcb2 hb2
        have hT3 := (((Turned.refl (fun k => k = A ∨ k = B ∨ k = wr.heap.size) X).drewN q2).setCell (p := ⟨B, 0, none⟩) (.inl (.inr (.inl rfl))) (.slice Ab2 (atP b' f).1.length cb2)).setCell (p := ⟨wr.heap.size, 1, none⟩) (.inl (.inr (.inr rfl))) (.int .i64 (atP b' f).2.1)
        have hT4 : Turned (fun k => k = A ∨ k = B) wr ((((X.drewN q2).setCell ⟨B, 0, none⟩ (.slice Ab2 (atP b' f).1.length cb2)).setCell ⟨wr.heap.size, 1, none⟩ (.int .i64 (atP b' f).2.1))) :=
          ⟨hT3.os.trans HT2.out.os, hT3.tape.trans HT2.out.tape, hT3.output.trans HT2.out.output, Nat.le_trans HT2.out.size hT3.size, fun k hk hn => (hT3.block k (by have := HT2.out.size; omega) (by intro h; rcases h with h | h | h; exact hn (.inl h); exact hn (.inr h); omega)).trans (HT2.out.block k hk hn)⟩
        have hYA := blk_far (blk_far (blk_drewN HXA.out q2) (p := ⟨B, 0, none⟩) hAB (.slice Ab2 (atP b' f).1.length cb2)) (p := ⟨wr.heap.size, 1, none⟩) (by have := blk_lt HA.out; simp; omega) (.int .i64 (atP b' f).2.1)
        have hYB := blk_far (blk_put (blk_drewN HXB.out q2) 0 (.slice Ab2 (atP b' f).1.length cb2) rfl) (p := ⟨wr.heap.size, 1, none⟩) (by simp; omega) (.int .i64 (atP b' f).2.1)
        have hYT := blk_far (blk_far (blk_drewN HXT.out q2) (p := ⟨B, 0, none⟩) (fun h => hBT h.symm) (.slice Ab2 (atP b' f).1.length cb2)) (p := ⟨wr.heap.size, 1, none⟩) (by have := blk_lt HT.out; simp; omega) (.int .i64 (atP b' f).2.1)
        have HYA := Aside0.mk hYA
        have HYB := Aside0.mk hYB
        have HYT := Aside0.mk hYT
        have HT4 := Aside0.mk hT4
        have HJY := Aside0.mk (hJ _ _ _ HJ.out hT4)
        clear hYA hYB hYT hT3 hT4
        obtain ⟨fn, tmps, assign, body, hy, hR⟩ := hY pre ⟨f, min (atP a' f).2.2 (atP b' f).2.2, (atP a' f).2.1, (atP b' f).2.1⟩ _ HJY.out (by rw [HL.out, ← HR.out]; exact ⟨rest', by simp⟩)
        dsimp only [encP] at hy
        gi_wp2_with fail
        refine ⟨by simp [Fence.wide], ?_⟩
        refine hR.mono ?_
        clear hR hy
        rintro e W' (⟨rfl, hJ', hk⟩ | ⟨rfl, hJx'⟩)
        · have HJ' := Aside0.mk hJ'
          have HK := Aside0.mk hk
          clear hJ' hk kB kBf kN0 kN1 kNf kBN
          gi_wp2_with fail
          gi_roundg gk
          case measure => omega
          case rel =>
            exact ⟨(atP a' f).1, (atP b' f).1, Aa2, Ab2, ca2, cb2, min (atP a' f).2.2 (atP b' f).2.2, pre ++ [⟨f, min (atP a' f).2.2 (atP b' f).2.2, (atP a' f).2.1, (atP b' f).2.1⟩], rest', rfl, HJ', ⟨by rw [HL.out, ← HR.out]; simp⟩, HP',
              ⟨(HK.out.block A (.inr (.inl rfl))).trans HYA.out⟩, ⟨(HK.out.block B (.inr (.inr (.inl rfl)))).trans HYB.out⟩, ⟨(HK.out.block AT (.inr (.inr (.inr rfl)))).trans HYT.out⟩, ⟨⟨HCA.out, HCB.out⟩⟩,
              ⟨hΦ _ _ HW.out (fun k hk => (HK.out.block k (.inl hk)).trans (HT4.out.block k (by have := blk_lt HA.out; omega) (by omega)))⟩, HA2, HB2⟩
        · have HJx' := Aside0.mk hJx'
          clear hJx' kB kBf kN0 kN1 kNf kBN
          gi_wp2_with fail
          refine bodyPost_ret (results_none rfl _ _ _) rfl ?_
          exact ⟨⟨_, rfl⟩, .inr ⟨_, by rw [HL.out, ← HR.out]; exact ⟨rest', by simp⟩, HJx'.out⟩⟩
      · have hfb : decide (f ≤ 99999999) = false := decide_eq_false hf
        have hP := HP.out
        simp only [pcs, if_neg hf, Option.some.injEq] at hP
        have HP' := Aside0.mk hP
        clear hP HP hf
        gi_wp2_with fail
        go_end0
        exact ⟨⟨_, rfl⟩, .inl ⟨pre, by rw [HL.out, ← HP'.out]; simp, HJ.out⟩⟩

end Go.Proofs.Ytdflgjgoikofaaa.Bk

namespace Go.Proofs.Ytdflgjgoikofaaa.Bk
open Go.RowKit Go.Proofs.YtdflgjgoikofaaaW.PrintWords Go.Proofs.YtdflgjgoikofaaaW.PrintLast Go.Proofs.YtdflgjgoikofaaaW.PrintMore
open Go.Proofs.Ytdflgjgoikofaaa.Ref Go.Proofs.Ytdflgjgoikofaaa.Pl Go.Proofs.Ytdflgjgoikofaaa.Rg
attribute [local go_sem high] run_min_min run_max_max
attribute [local go_sem] Oper.semAt_some

def CombI (w : World) (g : Nat) (lb : Array Value) (h : Int → Int → Int) (L pre : List Pc) (W : World) : Prop :=
  W.heap[w.heap.size]? = some (.cells #[.func (.func g) #[] lb] 33 (0, 0)) ∧
    (∃ v n, W.heap[w.heap.size + 1]? = some (.cells #[v] 24 (0, 0)) ∧ n = (combP h pre).length ∧ W.ownsRow (w.heap.size + 5) 53 3 v n (flat (combP h pre))) ∧ pre <+: L ∧ Below w.heap.size w W ∧ w.heap.size + 5 ≤ W.heap.size
theorem CombI.turned {w : World} {g : Nat} {lb : Array Value} {h : Int → Int → Int} {L pre : List Pc} {A B : World} {B0 : Nat} (hA : CombI w g lb h L pre A) (hB0 : w.heap.size ≤ B0) (hT : TurnedL (fun k => k = w.heap.size + 1 + 1 ∨ k = w.heap.size + 1 + 1 + 1) B0 A B) : CombI w g lb h L pre B := by
  obtain ⟨h2, ⟨v, n, h3, hn, h4⟩, h5, h6, h7⟩ := hA
  refine ⟨hT.cells h2 (by rintro (h | h) <;> omega), ⟨v, n, hT.cells h3 (by rintro (h | h) <;> omega), hn, own_move h4 (fun k hk => ?_)⟩, h5, ⟨hT.os.trans h6.os, hT.tape.trans h6.tape, hT.output.trans h6.output, Nat.le_trans h6.size hT.size, fun k hk => (hT.block k (by omega) (by rintro (h | h) <;> omega) (.inl (by omega))).trans (h6.block k hk)⟩, Nat.le_trans h7 hT.size⟩
  obtain ⟨cells, hc⟩ := own_typed h4 k hk
  have := own_base h4 k hk
  exact (hT.cells hc (by rintro (h | h) <;> omega)).trans hc.symm
theorem cells_new3 (W : World) (b : S53) : ∀ j u, (cells3 b)[j]? = some u → (W.alloc (.cells #[.int .i64 (bF b), .int .i64 (bT b), .int .i64 (bC b)] 53)).cell? ((⟨W.heap.size, 0, none⟩ : Addr).add j) = some u := by
  intro j u hj
  rw [add_plain, blk_cell (blk_new W _) j]
  rw [← hj]
  simp [cells3]

theorem comb_close {w W2 W' : World} {B0 : Nat} (hB0 : w.heap.size + 5 ≤ B0) {v : Value} {m : Nat} {xs : List Value} (hown : W2.ownsRow (w.heap.size + 5) 53 3 v m xs) (hos : W'.os = W2.os) (htape : W'.tape = W2.tape) (hout : W'.output = W2.output)
    (hsz : W2.heap.size ≤ W'.heap.size) (h7 : w.heap.size + 5 ≤ W2.heap.size) (hsame : ∀ k, k < W2.heap.size → k ≠ w.heap.size + 1 → some k ≠ v.ownBlock → W'.heap[k]? = W2.heap[k]?) :
    KeepsFrom B0 W2 W' ∧ Keeps (fun k => k < w.heap.size ∨ k = w.heap.size + 1 + 1 ∨ k = w.heap.size + 1 + 1 + 1 ∨ k = w.heap.size + 1 + 1 + 1 + 1) W2 W' ∧
    (∀ {t : TypeId} {c : Array Value}, W2.heap[w.heap.size]? = some (.cells c t (0, 0)) → W'.heap[w.heap.size]? = some (.cells c t (0, 0))) ∧ (Below w.heap.size w W2 → Below w.heap.size w W') := by
  have hb : ∀ k, k < w.heap.size + 5 → some k ≠ v.ownBlock := fun k hk e => by have := own_base hown k e.symm; omega
  refine ⟨⟨hsz, fun k o hk ho hc => ?_⟩, ⟨hsz, fun k hk => ?_⟩, fun {t c} hc => ?_, fun hB => ?_⟩
  · refine (hsame k (Array.getElem?_eq_some_iff.1 ho).1 (by omega) (fun e => ?_)).trans ho
    obtain ⟨cells, hcc⟩ := own_typed hown k e.symm
    rw [hcc] at ho; cases ho; cases hc
  · exact hsame k (by rcases hk with h | rfl | rfl | rfl <;> omega) (by rcases hk with h | rfl | rfl | rfl <;> omega) (hb k (by rcases hk with h | rfl | rfl | rfl <;> omega))
  · exact (hsame _ (by omega) (by omega) (hb _ (by omega))).trans hc
  · exact ⟨hos.trans hB.os, htape.trans hB.tape, hout.trans hB.output, Nat.le_trans hB.size hsz, fun k hk => (hsame k (by omega) (by omega) (hb k (by omega))).trans (hB.block k hk)⟩
theorem comb_append {w W2 w4 : World} {v : Value} {m : Nat} {xs : List Value} (hown : W2.ownsRow (w.heap.size + 5) 53 3 v m xs) (h7 : w.heap.size + 5 ≤ W2.heap.size) {q : Nat} {o : Obj} (hg : ((W2.drewN q).alloc o).grownBy w4 v.ownBlock) {u : Value}
    (h3 : W2.heap[w.heap.size + 1]? = some (.cells #[v] 24 (0, 0))) :
    w4.heap[w.heap.size + 1]? = some (.cells #[v] 24 (0, 0)) ∧ (∀ k, k < W2.heap.size → k ≠ w.heap.size + 1 → some k ≠ v.ownBlock → (w4.setCell ⟨w.heap.size + 1, 0, none⟩ u).heap[k]? = W2.heap[k]?) ∧ W2.heap.size ≤ w4.heap.size := by
  have hs : ∀ k, k < W2.heap.size → some k ≠ v.ownBlock → w4.heap[k]? = W2.heap[k]? := fun k hk he => (hg.block k (by simp; omega) he).trans (Below.heap_alloc _ _ _ hk)
  have hsz : W2.heap.size ≤ w4.heap.size := by have := hg.size; simp at this; omega
  exact ⟨(hs _ (by omega) (fun e => by have := own_base hown _ e.symm; omega)).trans h3, fun k hk hn he => (Below.heap_setCell _ _ _ _ hn).trans (hs k hk he), hsz⟩

set_option maxHeartbeats 2000000 in
theorem combine_calls (fuel : Nat) (a b : List S53) (L : List Pc) (Aa Ab : Option Addr) (ca cb : Nat) (g : Nat) (lb : Array Value) (h : Int → Int → Int) (w : World)
    (ha : Kd.C k53 w Aa a.length a) (hb : Kd.C k53 w Ab b.length b) (hca : a.length ≤ ca) (hcb : b.length ≤ cb) (hL : pcs fuel a b 0 = some L) (hlen : L.length ≤ 100000)
    (eg : ∀ args w, (callFunc g args).run Try.prog w = .ok (.enter g args) w)
    (hh : ∀ (x y : Int) (W : World), (∀ k, k < w.heap.size → W.heap[k]? = w.heap[k]?) → Calls Try.prog g (#[.int .i64 x, .int .i64 y] ++ lb) W fun e w' => e = .returned (.int .i64 (h x y)) ∧ ∃ q, w' = W.drewN q) :
    Calls Try.prog 49 #[.slice Aa a.length ca, .slice Ab b.length cb, .func (.func g) #[] lb] w fun e w' => ∃ v : Value,
      e = .returned (.tuple #[v, .int .i64 (if (combP h L).length ≤ 40 then 0 else 130)]) ∧ Kd.R k53 53 w' w.heap.size (fun _ => True) v (if (combP h L).length ≤ 40 then combP h L else []) ∧ Below w.heap.size w w' := by
  refine (callsIn_wide (n := 3)).1 ?_
  refine callsIn_of_wp_marks Try.func49 rfl trivial ?_ rfl
  simp only [Try.ntmps49, List.size_toArray, List.length_cons, List.length_nil, Nat.reduceAdd, Nat.reduceSub, Array.replicate_succ, Array.replicate_zero, List.push_toArray, List.append_toArray, List.nil_append, List.cons_append]
  gi_wp2_with fail
  refine ⟨trivial, ?_⟩
  refine (callsIn_wide.2 (pieces_calls Aa Ab a.length ca b.length cb _)).mono ?_
  rintro e w1 ⟨rfl, rfl⟩
  gi_wp2_with fail
  have hS : (((((w.alloc (.cells #[.func (.func g) #[] lb] 33)).alloc (.cells #[.slice none 0 0] 24)).alloc (.cells #[.slice Aa a.length ca] 24)).alloc (.cells #[.slice Ab b.length cb] 24)).alloc (.cells #[.func (.func 66) #[] #[]] 78)).heap.size = w.heap.size + 5 := by simp
  have hB : Below w.heap.size w (((((w.alloc (.cells #[.func (.func g) #[] lb] 33)).alloc (.cells #[.slice none 0 0] 24)).alloc (.cells #[.slice Aa a.length ca] 24)).alloc (.cells #[.slice Ab b.length cb] 24)).alloc (.cells #[.func (.func 66) #[] #[]] 78)) :=
    (((((Below.refl _ w).alloc (Nat.le_refl _) _).alloc (by simp) _).alloc (by simp; omega) _).alloc (by simp; omega) _).alloc (by simp; omega) _
  have b0 : (((((w.alloc (.cells #[.func (.func g) #[] lb] 33)).alloc (.cells #[.slice none 0 0] 24)).alloc (.cells #[.slice Aa a.length ca] 24)).alloc (.cells #[.slice Ab b.length cb] 24)).alloc (.cells #[.func (.func 66) #[] #[]] 78)).heap[w.heap.size]? = some (.cells #[.func (.func g) #[] lb] 33 (0, 0)) := blk_alloc (blk_alloc (blk_alloc (blk_alloc (blk_new w _) _) _) _) _
  have b1 : (((((w.alloc (.cells #[.func (.func g) #[] lb] 33)).alloc (.cells #[.slice none 0 0] 24)).alloc (.cells #[.slice Aa a.length ca] 24)).alloc (.cells #[.slice Ab b.length cb] 24)).alloc (.cells #[.func (.func 66) #[] #[]] 78)).heap[w.heap.size + 1]? = some (.cells #[.slice none 0 0] 24 (0, 0)) := by
    have := blk_alloc (blk_alloc (blk_alloc (blk_new (w.alloc (.cells #[.func (.func g) #[] lb] 33)) (.cells #[.slice none 0 0] 24)) (.cells #[.slice Aa a.length ca] 24)) (.cells #[.slice Ab b.length cb] 24)) (.cells #[.func (.func 66) #[] #[]] 78)
    rwa [World.size_alloc] at this
  have b2 : (((((w.alloc (.cells #[.func (.func g) #[] lb] 33)).alloc (.cells #[.slice none 0 0] 24)).alloc (.cells #[.slice Aa a.length ca] 24)).alloc (.cells #[.slice Ab b.length cb] 24)).alloc (.cells #[.func (.func 66) #[] #[]] 78)).heap[w.heap.size + 1 + 1]? = some (.cells #[.slice Aa a.length ca] 24 (0, 0)) := by
    have := blk_alloc (blk_alloc (blk_new ((w.alloc (.cells #[.func (.func g) #[] lb] 33)).alloc (.cells #[.slice none 0 0] 24)) (.cells #[.slice Aa a.length ca] 24)) (.cells #[.slice Ab b.length cb] 24)) (.cells #[.func (.func 66) #[] #[]] 78)
    rwa [World.size_alloc, World.size_alloc] at this
  have b3 : (((((w.alloc (.cells #[.func (.func g) #[] lb] 33)).alloc (.cells #[.slice none 0 0] 24)).alloc (.cells #[.slice Aa a.length ca] 24)).alloc (.cells #[.slice Ab b.length cb] 24)).alloc (.cells #[.func (.func 66) #[] #[]] 78)).heap[w.heap.size + 1 + 1 + 1]? = some (.cells #[.slice Ab b.length cb] 24 (0, 0)) := by
    have := blk_alloc (blk_new (((w.alloc (.cells #[.func (.func g) #[] lb] 33)).alloc (.cells #[.slice none 0 0] 24)).alloc (.cells #[.slice Aa a.length ca] 24)) (.cells #[.slice Ab b.length cb] 24)) (.cells #[.func (.func 66) #[] #[]] 78)
    rwa [World.size_alloc, World.size_alloc, World.size_alloc] at this
  have b4 : (((((w.alloc (.cells #[.func (.func g) #[] lb] 33)).alloc (.cells #[.slice none 0 0] 24)).alloc (.cells #[.slice Aa a.length ca] 24)).alloc (.cells #[.slice Ab b.length cb] 24)).alloc (.cells #[.func (.func 66) #[] #[]] 78)).heap[w.heap.size + 1 + 1 + 1 + 1]? = some (.cells #[.func (.func 66) #[] #[]] 78 (0, 0)) := by
    have := blk_new ((((w.alloc (.cells #[.func (.func g) #[] lb] 33)).alloc (.cells #[.slice none 0 0] 24)).alloc (.cells #[.slice Aa a.length ca] 24)).alloc (.cells #[.slice Ab b.length cb] 24)) (.cells #[.func (.func 66) #[] #[]] 78)
    rwa [World.size_alloc, World.size_alloc, World.size_alloc, World.size_alloc] at this
  generalize (((((w.alloc (.cells #[.func (.func g) #[] lb] 33)).alloc (.cells #[.slice none 0 0] 24)).alloc (.cells #[.slice Aa a.length ca] 24)).alloc (.cells #[.slice Ab b.length cb] 24)).alloc (.cells #[.func (.func 66) #[] #[]] 78)) = W5 at hS hB b0 b1 b2 b3 b4 ⊢
  refine wpIn_range (own := fun k => k = w.heap.size + 1 + 1 ∨ k = w.heap.size + 1 + 1 + 1) (kept := fun k => k < w.heap.size ∨ k = w.heap.size + 1 + 1 ∨ k = w.heap.size + 1 + 1 + 1 ∨ k = w.heap.size + 1 + 1 + 1 + 1)
    (Pre := (· <+: L)) (Fin := (· = L)) (encs := encP) rfl (by omega) (gf := 67) (lb := #[.pointer (some ⟨w.heap.size + 1 + 1 + 1 + 1, 0, none⟩), .pointer (some ⟨w.heap.size + 1 + 1, 0, none⟩), .pointer (some ⟨w.heap.size + 1 + 1 + 1, 0, none⟩)]) rfl trivial (enters_of Try.func67 (by kernel_rfl) rfl) L.length
    (by rintro k (rfl | rfl) <;> omega) (by rintro k (h | rfl | rfl | rfl) <;> omega) ?hseq (fun _ => rfl)
    (CombI w g lb h L)
    (fun _ _ _ => False) (fun _ _ _ hA hT => hA.turned (by omega) hT) (fun _ _ _ _ h => h.elim) (fun pre W h => h.2.2.1.length_le) ⟨b0, ⟨_, _, b1, rfl, World.ownsRow_nil _ _ _ _⟩, List.nil_prefix, hB, by omega⟩ ?round ?done (fun _ _ _ _ _ _ h => h.elim)
  case hseq =>
    intro X hX
    have hk : ∀ k, k < w.heap.size + 5 → X.heap[k]? = W5.heap[k]? := fun k hk => hX.block k (by omega) (fun h => h.elim)
    exact pieces_seq 2 X (w.heap.size + 1 + 1 + 1 + 1) (w.heap.size + 1 + 1) (w.heap.size + 1 + 1 + 1) w.heap.size fuel a b L Aa Ab ca cb ((hk _ (by omega)).trans b2) ((hk _ (by omega)).trans b3) ((hk _ (by omega)).trans b4)
      (by omega) (by omega) (by omega) (by omega) (by omega) (by omega) hca hcb (fun Y => ∀ k, k < w.heap.size → Y.heap[k]? = w.heap[k]?) (fun Y Z hY hZ k hk => (hZ k hk).trans (hY k hk))
      (fun k hk' => (hk k (by omega)).trans (hB.block k hk')) (fun Y hY => C_same ha hY) (fun Y hY => C_same hb hY) hL
  case round =>
    intro l pre x W hl hr hI hpre
    simp only [encP]
    gi_wp2_with fail
    refine ⟨((KeepsOthers.alloc _ _).trans (KeepsOthers.alloc _ _)).from _, ((Keeps.refl _ W).alloc (by have := hI.2.2.2.2; rintro k (h | rfl | rfl | rfl) <;> omega) _).alloc (by have := hI.2.2.2.2; rintro k (h | rfl | rfl | rfl) <;> omega) _, ?_⟩
    intro W2 hT hsz
    have hWs := hI.2.2.2.2
    have rr : W2.heap[W.heap.size]? = some (.cells #[.int .i64 x.f, .int .i64 x.t] 26 (0, 0)) := hT.cells (blk_alloc (blk_new W _) _) (by rintro (h | h) <;> omega)
    have rc : W2.heap[W.heap.size + 1]? = some (.cells #[.int .i64 x.x, .int .i64 x.y] 35 (0, 0)) := by
      have := blk_new (W.alloc (.cells #[.int .i64 x.f, .int .i64 x.t] 26)) (.cells #[.int .i64 x.x, .int .i64 x.y] 35)
      rw [World.size_alloc] at this
      exact hT.cells this (by rintro (h | h) <;> omega)
    have hI2 : CombI w g lb h L pre W2 := (hI.turned (B0 := W5.heap.size) (by omega) (TurnedL.of (((Turned.refl _ W).alloc (.cells #[.int .i64 x.f, .int .i64 x.t] 26)).alloc (.cells #[.int .i64 x.x, .int .i64 x.y] 35)))).turned (by omega) hT
    have hpre' := Aside0.mk hpre
    have hHB := Aside0.mk hB
    have hHl := Aside0.mk hl
    have hHS := Aside0.mk hS
    clear hI hT hsz hr hpre hB b0 b1 b2 b3 b4 hl hS
    obtain ⟨h2, ⟨v, m, h3, hm, h4⟩, h5, h6, h7⟩ := hI2
    have kH : W2.cell? ⟨w.heap.size, 0, none⟩ = some _ := (blk_cell h2 0).trans rfl
    have kr0 : W2.cell? ⟨W.heap.size, 0, none⟩ = some _ := (blk_cell rr 0).trans rfl
    have kr1 : W2.cell? ⟨W.heap.size, 1, none⟩ = some _ := (blk_cell rr 1).trans rfl
    have kc0 : W2.cell? ⟨W.heap.size + 1, 0, none⟩ = some _ := (blk_cell rc 0).trans rfl
    have kc1 : W2.cell? ⟨W.heap.size + 1, 1, none⟩ = some _ := (blk_cell rc 1).trans rfl
    have kO : W2.cell? ⟨w.heap.size + 1, 0, none⟩ = some _ := (blk_cell h3 0).trans rfl
    have kOf := blk_frozen h3 0
    have HH := Aside0.mk hh
    have H2 := Aside0.mk h2
    have H3 := Aside0.mk h3
    have HM := Aside0.mk hm
    have H4 := Aside0.mk h4
    have H5 := Aside0.mk h5
    have H6 := Aside0.mk h6
    have RR := Aside0.mk rr
    have HLEN := Aside0.mk hlen
    clear hh h2 h3 hm h4 h5 h6 rr rc ha hb hca hcb hL hlen
    gi_wp2_with fail
    refine ⟨trivial, ?_⟩
    refine (CallsIn.inRound l (callsIn_wide.2 (HH.out x.x x.y W2 (fun k hk => H6.out.block k hk)))).mono ?_
    rintro e w3 ⟨rfl, q, rfl⟩
    have hsn := combP_snoc h pre x
    unfold stepC at hsn
    generalize h x.x x.y = kk at hsn ⊢
    obtain ⟨i0, hi, hz0, hz1, hz2⟩ := info_parts info53
    have HSN := Aside0.mk hsn
    clear hsn HH
    have hx1 : (1 : Nat) ≤ 3 := by omega
    by_cases hk : kk = -1
    · have hkb : (kk == -1) = true := beq_iff_eq.mpr hk
      have HK := Aside0.mk hk
      clear hk
      gi_wp2_with fail
      have e1 : combP h (pre ++ [x]) = combP h pre := by rw [HSN.out, if_pos HK.out]
      refine ⟨⟨Nat.le_refl _, fun _ _ _ h _ => h⟩, ⟨Nat.le_refl _, fun _ _ => rfl⟩, H2.out, ⟨v, m, H3.out, by rw [e1]; exact HM.out, by rw [e1]; exact H4.out⟩, hpre'.out, ⟨H6.out.os, H6.out.tape, H6.out.output, H6.out.size, H6.out.block⟩, h7⟩
    · have hkb : (kk == -1) = false := beq_eq_false_iff_ne.mpr hk
      have HK := Aside0.mk hk
      clear hk
      obtain ⟨Av, cv, rfl⟩ := own_slice H4.out
      cases m with
      | zero =>
        have hd1 : decide ((0 : Int) < 0) = false := rfl
        gi_wp2_with (fail)
        refine wpIn_region_quietR (by kernel_rfl) (by kernel_rfl) (by kernel_rfl) ?_
        repeat (gi_big_quiet_step (fail))
        refine wpQuietIn_nil ?_
        intro _ hw'
        obtain ⟨nq, rfl⟩ := hw'
        have ho0 : combP h pre = [] := List.eq_nil_of_length_eq_zero HM.out.symm
        have e1 : combP h (pre ++ [x]) = combP h pre ++ [⟨⟨x.f, x.t⟩, kk⟩] := by rw [HSN.out, if_neg HK.out, ho0]; rfl
        have E1 := Aside0.mk e1
        clear e1 ho0
        gi_wp2_with (gi_at_builtin; refine wpListIn_append_own _ rfl _ _ 24 rfl (w.heap.size + 5) 53 i0 (.agg #[.int .i64 0, .int .i64 0, .int .i64 0]) 3 24 Try.underlying24 hi hz0 hz1 hz2 rfl (by decide) _ 0 (flat (combP h pre)) rfl (World.ownsRow.alloc (w := W2.drewN _) H4.out _) ⟨W2.heap.size, 0, none⟩ 1 1 (cells3 ⟨⟨x.f, x.t⟩, kk⟩) rfl rfl (cells_new3 (W2.drewN _) ⟨⟨x.f, x.t⟩, kk⟩) (by simp [cells3, Value.oneCell']) (by simp [maxLen]) (by omega) (by simp; omega) ?_; intro v' w4 hown' hgrow _; obtain ⟨g', cap', rfl⟩ := ownsRow_succ hown'; have hcl := comb_append H4.out h7 hgrow (u := .slice (some ⟨g', 0, none⟩) (0 + 1) cap') H3.out; have kO4 : w4.cell? ⟨w.heap.size + 1, 0, none⟩ = some _ := (blk_cell hcl.1 0).trans rfl; have kOf4 := blk_frozen hcl.1 0; have HOWN := Aside0.mk hown'; have HGR := Aside0.mk hgrow; have HCL := Aside0.mk hcl; clear hown' hgrow hcl)
        obtain ⟨k1, k2, k3, k4⟩ := comb_close (W' := w4.setCell ⟨w.heap.size + 1, 0, none⟩ (.slice (some ⟨g', 0, none⟩) (0 + 1) cap')) (B0 := W5.heap.size) (by have := hHS.out; omega) H4.out HGR.out.os HGR.out.tape HGR.out.output (by simpa [World.setCell] using HCL.out.2.2) h7 HCL.out.2.1
        refine ⟨k1, k2, k3 H2.out, ⟨_, _, blk_put HCL.out.1 0 _ rfl, by rw [E1.out, List.length_append, ← HM.out], ?_⟩, hpre'.out, k4 H6.out, Nat.le_trans h7 k1.size⟩
        rw [E1.out, flat_snoc]
        exact HOWN.out.kept (grownBy_setCell' w4 _ _) (.inr (fun e => by have := own_base HOWN.out _ e; omega))
      | succ m =>
        obtain ⟨g2, c2, hv⟩ := ownsRow_succ H4.out
        cases hv
        have hlast := flat_last (combP h pre) (by have := HM.out; omega)
        rw [show (combP h pre).length - 1 = m by have := HM.out; omega] at hlast
        have c0 := (H4.out.cellAt (m * 3) (by omega)).trans hlast.1
        have c1 := (H4.out.cellAt (m * 3 + 1) (by omega)).trans hlast.2.1
        have c2' := (H4.out.cellAt (m * 3 + 2) (by omega)).trans hlast.2.2
        have f1 := H4.out.frozenAt (m * 3 + 1)
        have hd1 : decide ((0 : Int) < (m : Int) + 1) = true := decide_eq_true (by omega)
        have hml : m + 1 ≤ 100000 := by have := HM.out; have := combP_len h pre; have := hpre'.out.length_le; simp at this; have := HLEN.out; omega
        have q1 := eq_true (show (m : Int) < (m : Int) + 1 by omega)
        have q2 := eq_true (show (0 : Int) ≤ (m : Int) by omega)
        clear hlast
        by_cases hT : bT (lastB (combP h pre)) = x.f
        · have hTb : (bT (lastB (combP h pre)) == x.f) = true := beq_iff_eq.mpr hT
          have HTe := Aside0.mk hT
          clear hT
          by_cases hC : bC (lastB (combP h pre)) = kk
          · have hCb : (bC (lastB (combP h pre)) == kk) = true := beq_iff_eq.mpr hC
            have HCe := Aside0.mk hC
            clear hC
            gi_wp2_with (fail)
            refine wpIn_region_quietR (by kernel_rfl) (by kernel_rfl) (by kernel_rfl) ?_
            repeat (gi_big_quiet_step (fail))
            refine wpQuietIn_nil ?_
            intro _ hw'
            obtain ⟨nq, rfl⟩ := hw'
            gi_wp2_with (fail)
            have ho : decide (0 < (combP h pre).length) = true := decide_eq_true (by have := HM.out; omega)
            have e1 : combP h (pre ++ [x]) = (combP h pre).set ((combP h pre).length - 1) ⟨⟨bF (lastB (combP h pre)), x.t⟩, bC (lastB (combP h pre))⟩ := by
              rw [HSN.out, if_neg HK.out, if_pos (by simp only [joins, ho, hTb, hCb, Bool.and_self])]
            obtain ⟨k1, k2, k3, k4⟩ := comb_close (W' := (W2.drewN (q + nq)).setCell ⟨g2, m * 3 + 1, none⟩ (.int .i64 x.t)) (B0 := W5.heap.size) (by have := hHS.out; omega) H4.out rfl rfl rfl (by simp [World.setCell]) h7 (fun k hk hn he => Below.heap_setCell _ _ _ _ (fun e => he (by rw [e]; rfl)))
            refine ⟨k1, k2, k3 H2.out, ⟨_, m + 1, blk_far (blk_drewN H3.out _) (fun e => by have := own_base H4.out g2 rfl; have e' : w.heap.size + 1 = g2 := e; omega) _, by rw [e1, List.length_set]; exact HM.out, ?_⟩, hpre'.out, k4 H6.out, Nat.le_trans h7 k1.size⟩
            rw [e1, flat_set_last _ _ (by have := HM.out; omega), show (combP h pre).length - 1 = m by have := HM.out; omega]
            exact (World.ownsRow.stored (w := W2.drewN (q + nq)) H4.out (m * 3 + 1) _).1
          · have hCb : (bC (lastB (combP h pre)) == kk) = false := beq_eq_false_iff_ne.mpr hC
            clear hC
            have e1 : combP h (pre ++ [x]) = combP h pre ++ [⟨⟨x.f, x.t⟩, kk⟩] := by
              rw [HSN.out, if_neg HK.out, if_neg (by simp only [joins, hCb, Bool.and_false]; decide)]
            have E1 := Aside0.mk e1
            clear e1
            gi_wp2_with (fail)
            refine wpIn_region_quietR (by kernel_rfl) (by kernel_rfl) (by kernel_rfl) ?_
            repeat (gi_big_quiet_step (fail))
            refine wpQuietIn_nil ?_
            intro _ hw'
            obtain ⟨nq, rfl⟩ := hw'
            gi_wp2_with (gi_at_builtin; refine wpListIn_append_own _ rfl _ _ 24 rfl (w.heap.size + 5) 53 i0 (.agg #[.int .i64 0, .int .i64 0, .int .i64 0]) 3 24 Try.underlying24 hi hz0 hz1 hz2 rfl (by decide) _ (m + 1) (flat (combP h pre)) rfl (World.ownsRow.alloc (w := W2.drewN _) H4.out _) ⟨W2.heap.size, 0, none⟩ 1 1 (cells3 ⟨⟨x.f, x.t⟩, kk⟩) rfl rfl (cells_new3 (W2.drewN _) ⟨⟨x.f, x.t⟩, kk⟩) (by simp [cells3, Value.oneCell']) (by unfold maxLen; omega) (by omega) (by simp; omega) ?_; intro v' w4 hown' hgrow _; obtain ⟨g', cap', rfl⟩ := ownsRow_succ hown'; have hcl := comb_append H4.out h7 hgrow (u := .slice (some ⟨g', 0, none⟩) (m + 1 + 1) cap') H3.out; have kO4 : w4.cell? ⟨w.heap.size + 1, 0, none⟩ = some _ := (blk_cell hcl.1 0).trans rfl; have kOf4 := blk_frozen hcl.1 0; have HOWN := Aside0.mk hown'; have HGR := Aside0.mk hgrow; have HCL := Aside0.mk hcl; clear hown' hgrow hcl)
            obtain ⟨k1, k2, k3, k4⟩ := comb_close (W' := w4.setCell ⟨w.heap.size + 1, 0, none⟩ (.slice (some ⟨g', 0, none⟩) (m + 1 + 1) cap')) (B0 := W5.heap.size) (by have := hHS.out; omega) H4.out HGR.out.os HGR.out.tape HGR.out.output (by simpa [World.setCell] using HCL.out.2.2) h7 HCL.out.2.1
            refine ⟨k1, k2, k3 H2.out, ⟨_, _, blk_put HCL.out.1 0 _ rfl, by rw [E1.out, List.length_append, ← HM.out], ?_⟩, hpre'.out, k4 H6.out, Nat.le_trans h7 k1.size⟩
            rw [E1.out, flat_snoc]
            exact HOWN.out.kept (grownBy_setCell' w4 _ _) (.inr (fun e => by have := own_base HOWN.out _ e; omega))
        · have hTb : (bT (lastB (combP h pre)) == x.f) = false := beq_eq_false_iff_ne.mpr hT
          clear hT
          have e1 : combP h (pre ++ [x]) = combP h pre ++ [⟨⟨x.f, x.t⟩, kk⟩] := by
            rw [HSN.out, if_neg HK.out, if_neg (by simp only [joins, hTb, Bool.and_false, Bool.false_and]; decide)]
          have E1 := Aside0.mk e1
          clear e1
          gi_wp2_with (fail)
          refine wpIn_region_quietR (by kernel_rfl) (by kernel_rfl) (by kernel_rfl) ?_
          repeat (gi_big_quiet_step (fail))
          refine wpQuietIn_nil ?_
          intro _ hw'
          obtain ⟨nq, rfl⟩ := hw'
          gi_wp2_with (gi_at_builtin; refine wpListIn_append_own _ rfl _ _ 24 rfl (w.heap.size + 5) 53 i0 (.agg #[.int .i64 0, .int .i64 0, .int .i64 0]) 3 24 Try.underlying24 hi hz0 hz1 hz2 rfl (by decide) _ (m + 1) (flat (combP h pre)) rfl (World.ownsRow.alloc (w := W2.drewN _) H4.out _) ⟨W2.heap.size, 0, none⟩ 1 1 (cells3 ⟨⟨x.f, x.t⟩, kk⟩) rfl rfl (cells_new3 (W2.drewN _) ⟨⟨x.f, x.t⟩, kk⟩) (by simp [cells3, Value.oneCell']) (by unfold maxLen; omega) (by omega) (by simp; omega) ?_; intro v' w4 hown' hgrow _; obtain ⟨g', cap', rfl⟩ := ownsRow_succ hown'; have hcl := comb_append H4.out h7 hgrow (u := .slice (some ⟨g', 0, none⟩) (m + 1 + 1) cap') H3.out; have kO4 : w4.cell? ⟨w.heap.size + 1, 0, none⟩ = some _ := (blk_cell hcl.1 0).trans rfl; have kOf4 := blk_frozen hcl.1 0; have HOWN := Aside0.mk hown'; have HGR := Aside0.mk hgrow; have HCL := Aside0.mk hcl; clear hown' hgrow hcl)
          obtain ⟨k1, k2, k3, k4⟩ := comb_close (W' := w4.setCell ⟨w.heap.size + 1, 0, none⟩ (.slice (some ⟨g', 0, none⟩) (m + 1 + 1) cap')) (B0 := W5.heap.size) (by have := hHS.out; omega) H4.out HGR.out.os HGR.out.tape HGR.out.output (by simpa [World.setCell] using HCL.out.2.2) h7 HCL.out.2.1
          refine ⟨k1, k2, k3 H2.out, ⟨_, _, blk_put HCL.out.1 0 _ rfl, by rw [E1.out, List.length_append, ← HM.out], ?_⟩, hpre'.out, k4 H6.out, Nat.le_trans h7 k1.size⟩
          rw [E1.out, flat_snoc]
          exact HOWN.out.kept (grownBy_setCell' w4 _ _) (.inr (fun e => by have := own_base HOWN.out _ e; omega))
  case done =>
    rintro D xs W hD rfl ⟨h2, ⟨v, n, h3, hn, h4⟩, h5, h6, h7⟩ hK
    have kO : W.cell? ⟨w.heap.size + 1, 0, none⟩ = some _ := (blk_cell h3 0).trans rfl
    obtain ⟨A, c, rfl⟩ := own_slice h4
    have HN := Aside0.mk hn
    have H3 := Aside0.mk h3
    have H4 := Aside0.mk h4
    have H6 := Aside0.mk h6
    clear hn h3 h4 h2 h6 h5 hh ha hb hL hlen b0 b1 b2 b3 b4 hB
    have hbel : Below w.heap.size w (W.putObj D (.deferred none)) := ⟨H6.out.os, H6.out.tape, H6.out.output, by simpa using H6.out.size, fun k hk => (World.putObj_heap_other (by omega)).trans (H6.out.block k hk)⟩
    by_cases h40 : (combP h xs).length ≤ 40
    · have hb40 : decide ((40 : Int) < n) = false := by rw [decide_eq_false_iff_not]; have := HN.out; omega
      have hR : Kd.R k53 53 (W.putObj D (.deferred none)) w.heap.size (fun _ => True) (.slice A n c) (combP h xs) := by
        refine R_of_flat (own_weaken ?_ (by omega : w.heap.size ≤ w.heap.size + 5))
        rw [← HN.out]
        exact ownsRow_putObj H4.out _ hK rfl
      have HR := Aside0.mk hR
      have HBl := Aside0.mk hbel
      clear hR hbel
      gi_wp2_with fail
      refine ⟨by simp, .inl ⟨_, _, rfl, run_takeDeferred hK, ?_⟩⟩
      refine ⟨_, results_tmp2 rfl _ _ _, ?_⟩
      refine ⟨.slice A n c, ?_, ?_, HBl.out⟩
      · first | rfl | (rw [if_pos h40]; rfl)
      · first | exact HR.out | (rw [if_pos h40]; exact HR.out)
    · have hb40 : decide ((40 : Int) < n) = true := by rw [decide_eq_true_iff]; have := HN.out; omega
      have HBl := Aside0.mk hbel
      clear hbel
      gi_wp2_with fail
      refine ⟨by simp, .inl ⟨_, _, rfl, run_takeDeferred hK, ?_⟩⟩
      refine ⟨_, results_tmp2 rfl _ _ _, ?_⟩
      refine ⟨.slice none 0 0, ?_, ?_, HBl.out⟩
      · first | rfl | (rw [if_neg h40]; rfl)
      · first | exact Kd.R_nil _ _ _ _ _ | (rw [if_neg h40]; exact Kd.R_nil _ _ _ _ _)
end Go.Proofs.Ytdflgjgoikofaaa.Bk
