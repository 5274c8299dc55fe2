/- What the functions of package block return. -/
import Derived.Test.YtdflgjgoikofaaaZ2
import Derived.Test.YtdflgjgoikofaaaZ1
import Derived.Shelf.Abstract
set_option linter.unusedVariables false
set_option linter.unusedSimpArgs false
namespace Go.Proofs.Ytdflgjgoikofaaa.Bk
open Go.RowKit Go.Proofs.YtdflgjgoikofaaaW.PrintWords Go.Proofs.YtdflgjgoikofaaaW.PrintLast Go.Proofs.YtdflgjgoikofaaaW.PrintMore
open Go.Proofs.Ytdflgjgoikofaaa.Ref Go.Proofs.Ytdflgjgoikofaaa.Pl

def aggB (b : S53) : Value := .agg #[.int .i64 (bF b), .int .i64 (bT b), .int .i64 (bC b)]
/-- The first index at which p says true, or none; J, Jx: what is known of the world then. -/
def IdxPost (n : Nat) (p : Nat → Bool) (J Jx : Nat → World → Prop) (enc : Option Nat → Value) (e : Ending) (w' : World) : Prop :=
  (∃ i, i < n ∧ p i = true ∧ (∀ j, j < i → p j = false) ∧ e = .returned (enc (some i)) ∧ Jx i w') ∨ ((∀ j, j < n → p j = false) ∧ e = .returned (enc none) ∧ J n w')
def encI : Option Nat → Value
  | some i => .int .i64 (i : Int)
  | none => .int .i64 (-1)
def encO (o : Option Nat) : Value := .bool o.isSome

set_option maxHeartbeats 1000000 in
theorem idx_calls (l : List S53) (A : Option Addr) (c g : Nat) (lb : Array Value) (p : Nat → Bool) (J Jx : Nat → World → Prop) (w : World)
    (eg : ∀ args w, (callFunc g args).run Try.prog w = .ok (.enter g args) w) (hC : ∀ i W, J i W → Kd.C k53 W A l.length l)
    (hcall : ∀ i W, i < l.length → J i W → Calls Try.prog g (#[aggB (l.getD i z53)] ++ lb) W fun e W' => e = .returned (.bool (p i)) ∧ (p i = false → J (i + 1) W') ∧ (p i = true → Jx i W')) (h0 : J 0 w) :
    Calls Try.prog 62 #[.slice A l.length c, .func (.func g) #[] lb] w (IdxPost l.length p J Jx encI) := by
  have hm := (hC 0 w h0).2.1
  have HC := Aside0.mk hC
  have HF := Aside0.mk hcall
  have H0 := Aside0.mk h0
  clear hC hcall h0
  go_enter Try.func62, Try.ntmps62
  go_wp2
  go_loopg [8] l.length (fun kq v wr => ∃ i : Nat, v = .int .i64 (i : Int) ∧ Aside0 (i + kq = l.length) ∧ Aside0 (∀ j, j < i → p j = false) ∧ Aside0 (J i wr))
  case atStart => exact ⟨0, rfl, ⟨by omega⟩, ⟨fun j hj => by omega⟩, H0⟩
  case round =>
    obtain ⟨i, rfl, HK, HP, HJ⟩ := hrel
    by_cases hi : i < l.length
    · have hib : decide ((i : Int) < (l.length : Int)) = true := decide_eq_true (by omega)
      have q1 := eq_true (show (i : Int) < (l.length : Int) by omega)
      have q2 := eq_true (show (0 : Int) ≤ (i : Int) by omega)
      obtain ⟨ad, rfl, c0, c1, c2⟩ := at_T53 (HC.out _ _ HJ.out) (i : Int) (by omega) (by omega)
      simp only [Int.toNat_natCast, rd_T53] at c0 c1 c2
      have HI := Aside0.mk hi
      clear hi
      go_wp2_with fail
      have hF := HF.out i wr HI.out HJ.out
      simp only [List.getD_eq_getElem?_getD] at hF
      refine hF.mono ?_
      clear hF
      rintro e w1 ⟨rfl, hj0, hj1⟩
      cases hp : p i with
      | false =>
        have hj := hj0 hp
        have HJ1 := Aside0.mk hj
        have HPi := Aside0.mk hp
        clear hj0 hj1 hj hp
        have hlt := HI.out
        have hk1 : i + 1 ≤ 9223372036854775807 := by omega
        clear hlt
        go_wp2
        go_roundg (l.length - (i + 1))
        case measure => have := HK.out; have := HI.out; omega
        case rel => exact ⟨i + 1, by go_num, ⟨by have := HK.out; have := HI.out; omega⟩, ⟨fun j hj => by rcases Nat.lt_or_ge j i with h | h; exact HP.out j h; rw [show j = i by omega]; exact HPi.out⟩, HJ1⟩
      | true =>
        have hj := hj1 hp
        have HJ1 := Aside0.mk hj
        have HPi := Aside0.mk hp
        clear hj0 hj1 hj hp
        go_wp2
        go_ret
        exact .inl ⟨i, HI.out, HPi.out, HP.out, rfl, HJ1.out⟩
    · have hib : decide ((i : Int) < (l.length : Int)) = false := decide_eq_false (by omega)
      have hge : (l.length : Int) ≤ (i : Int) := by omega
      have HI := Aside0.mk hi
      clear hi
      go_wp2
      go_ret
      exact .inr ⟨fun j hj => HP.out j (by have := HI.out; omega), rfl, by have h := HJ.out; rw [show i = l.length by have := HK.out; have := HI.out; omega] at h; exact h⟩

theorem contains_calls (l : List S53) (A : Option Addr) (c g : Nat) (lb : Array Value) (p : Nat → Bool) (J Jx : Nat → World → Prop) (w : World)
    (eg : ∀ args w, (callFunc g args).run Try.prog w = .ok (.enter g args) w) (hC : ∀ i W, J i W → Kd.C k53 W A l.length l)
    (hcall : ∀ i W, i < l.length → J i W → Calls Try.prog g (#[aggB (l.getD i z53)] ++ lb) W fun e W' => e = .returned (.bool (p i)) ∧ (p i = false → J (i + 1) W') ∧ (p i = true → Jx i W')) (h0 : J 0 w) :
    Calls Try.prog 56 #[.slice A l.length c, .func (.func g) #[] lb] w (IdxPost l.length p J Jx encO) := by
  have H := Aside0.mk (idx_calls l A c g lb p J Jx w eg hC hcall h0)
  clear hC hcall h0
  go_enter Try.func56, Try.ntmps56
  go_wp2_with fail
  refine H.out.mono ?_
  rintro e w1 (⟨i, hi, hp, hn, rfl, hx⟩ | ⟨hn, rfl, hx⟩)
  · have HN := Aside0.mk hn
    have HX := Aside0.mk hx
    have HP := Aside0.mk hp
    clear hn hx hp
    simp only [encI]
    have hb : decide ((0 : Int) ≤ (i : Int)) = true := decide_eq_true (by omega)
    go_wp2
    go_ret
    exact .inl ⟨i, hi, HP.out, HN.out, rfl, HX.out⟩
  · have HN := Aside0.mk hn
    have HX := Aside0.mk hx
    clear hn hx
    simp only [encI]
    go_wp2
    go_ret
    exact .inr ⟨HN.out, rfl, HX.out⟩
end Go.Proofs.Ytdflgjgoikofaaa.Bk

namespace Go.Proofs.Ytdflgjgoikofaaa.Bk
open Go.RowKit Go.Shelf Go.Proofs.YtdflgjgoikofaaaW.PrintWords Go.Proofs.YtdflgjgoikofaaaW.PrintLast Go.Proofs.YtdflgjgoikofaaaW.PrintMore
open Go.Proofs.Ytdflgjgoikofaaa.Ref Go.Proofs.Ytdflgjgoikofaaa.Pl Go.Proofs.Ytdflgjgoikofaaa.Rg
attribute [local go_sem high] eqA26 eqA53

theorem isRange_calls (f t : Int) (w : World) : Calls Try.prog 47 #[.agg #[.int .i64 f, .int .i64 t]] w fun e w' => e = .returned (.bool (rangeB f t)) ∧ Below w.heap.size w w' := by
  refine block_isRange.calls f t (rangeB f t) w ?_
  unfold block_isRange.f rangeB
  by_cases h1 : 0 ≤ f <;> by_cases h2 : f < t <;> simp [h1, h2]
theorem isCarrier_calls (c : Int) (w : World) : Calls Try.prog 48 #[.int .i64 c] w fun e w' => e = .returned (.bool (carrB c)) ∧ Drawn0 w w' := by
  refine block_isCarrier.calls c (carrB c) w ?_
  unfold block_isCarrier.f carrB
  by_cases h1 : 0 ≤ c <;> simp [h1]

def a3 (b : S53) : Array Value := #[.int .i64 (bF b), .int .i64 (bT b), .int .i64 (bC b)]
set_option maxHeartbeats 2000000 in
theorem valid1_calls (E : Nat) (prev b : S53) (w : World) (hE : w.heap[E]? = some (.cells (a3 prev) 53 (0, 0))) :
    Calls Try.prog 55 #[aggB b, .pointer (some ⟨E, 0, none⟩)] w fun e w' => e = .returned (.bool (badB prev b)) ∧ w'.heap[E]? = some (.cells (a3 b) 53 (0, 0)) ∧ Turned (fun k => k = E) w w' := by
  have e0 : w.cell? ⟨E, 0, none⟩ = some (.int .i64 (bF prev)) := (blk_cell hE 0).trans rfl
  have e1 : w.cell? ⟨E, 1, none⟩ = some (.int .i64 (bT prev)) := (blk_cell hE 1).trans rfl
  have e2 : w.cell? ⟨E, 2, none⟩ = some (.int .i64 (bC prev)) := (blk_cell hE 2).trans rfl
  have f0 := blk_frozen hE 0
  have f1 := blk_frozen hE 1
  have f2 := blk_frozen hE 2
  have hlt := blk_lt hE
  have HE := Aside0.mk hE
  clear hE
  unfold aggB
  go_enter Try.func55, Try.ntmps55
  go_wp2_with fail
  have s0 : ((((w.setCell ⟨E, 0, none⟩ (.int .i64 (bF b))).setCell ⟨E, 1, none⟩ (.int .i64 (bT b))).setCell ⟨E, 2, none⟩ (.int .i64 (bC b)))).heap.size = w.heap.size := by simp [World.setCell]
  have hW1 := blk_put (blk_put (blk_put HE.out 0 (.int .i64 (bF b)) rfl) 1 (.int .i64 (bT b)) rfl) 2 (.int .i64 (bC b)) (cs' := a3 b) rfl
  have hT1 := (((Turned.refl (fun k => k = E) w).setCell (p := ⟨E, 0, none⟩) (.inl rfl) (.int .i64 (bF b))).setCell (p := ⟨E, 1, none⟩) (.inl rfl) (.int .i64 (bT b))).setCell (p := ⟨E, 2, none⟩) (.inl rfl) (.int .i64 (bC b))
  generalize (((w.setCell ⟨E, 0, none⟩ (.int .i64 (bF b))).setCell ⟨E, 1, none⟩ (.int .i64 (bT b))).setCell ⟨E, 2, none⟩ (.int .i64 (bC b))) = W1 at s0 hW1 hT1 ⊢
  have hXE := blk_alloc (blk_alloc hW1 (.cells #[.int .i64 (bF b), .int .i64 (bT b), .int .i64 (bC b)] 53)) (.cells #[.int .i64 (bF prev), .int .i64 (bT prev), .int .i64 (bC prev)] 53)
  have hX0 := blk_alloc (blk_new W1 (.cells #[.int .i64 (bF b), .int .i64 (bT b), .int .i64 (bC b)] 53)) (.cells #[.int .i64 (bF prev), .int .i64 (bT prev), .int .i64 (bC prev)] 53)
  have hX1 := blk_new (W1.alloc (.cells #[.int .i64 (bF b), .int .i64 (bT b), .int .i64 (bC b)] 53)) (.cells #[.int .i64 (bF prev), .int .i64 (bT prev), .int .i64 (bC prev)] 53)
  have hXT := (hT1.alloc (.cells #[.int .i64 (bF b), .int .i64 (bT b), .int .i64 (bC b)] 53)).alloc (.cells #[.int .i64 (bF prev), .int .i64 (bT prev), .int .i64 (bC prev)] 53)
  rw [World.size_alloc, s0] at hX1
  rw [s0] at hX0
  generalize ((W1.alloc (.cells #[.int .i64 (bF b), .int .i64 (bT b), .int .i64 (bC b)] 53)).alloc (.cells #[.int .i64 (bF prev), .int .i64 (bT prev), .int .i64 (bC prev)] 53)) = X at hXE hX0 hX1 hXT ⊢
  have HXE := Aside0.mk hXE
  have HX0 := Aside0.mk hX0
  have HX1 := Aside0.mk hX1
  have HXT := Aside0.mk hXT
  clear hXE hX0 hX1 hXT hW1 hT1 s0 e0 e1 e2 f0 f1 f2 hlt
  refine (isRange_calls (bF b) (bT b) X).mono ?_
  rintro e Y ⟨rfl, hb⟩
  have k0 : Y.cell? ⟨w.heap.size, 0, none⟩ = some (.int .i64 (bF b)) := (blk_cell (blk_below HX0.out hb) 0).trans rfl
  have k1 : Y.cell? ⟨w.heap.size, 1, none⟩ = some (.int .i64 (bT b)) := (blk_cell (blk_below HX0.out hb) 1).trans rfl
  have k2 : Y.cell? ⟨w.heap.size, 2, none⟩ = some (.int .i64 (bC b)) := (blk_cell (blk_below HX0.out hb) 2).trans rfl
  have l0 : Y.cell? ⟨w.heap.size + 1, 0, none⟩ = some (.int .i64 (bF prev)) := (blk_cell (blk_below HX1.out hb) 0).trans rfl
  have l1 : Y.cell? ⟨w.heap.size + 1, 1, none⟩ = some (.int .i64 (bT prev)) := (blk_cell (blk_below HX1.out hb) 1).trans rfl
  have l2 : Y.cell? ⟨w.heap.size + 1, 2, none⟩ = some (.int .i64 (bC prev)) := (blk_cell (blk_below HX1.out hb) 2).trans rfl
  have HYE := Aside0.mk (blk_below HXE.out hb)
  have HYT := Aside0.mk (HXT.out.then_below hb)
  clear hb
  cases hR : rangeB (bF b) (bT b) with
  | false =>
    have HRe := Aside0.mk hR
    clear hR
    go_wp2_with fail
    go_ret
    exact ⟨by rw [show badB prev b = true by simp only [badB, HRe.out, Bool.not_false, Bool.true_or]]; rfl, HYE.out, HYT.out⟩
  | true =>
    have HRe := Aside0.mk hR
    clear hR
    go_wp2_with fail
    refine (isCarrier_calls (bC b) Y).mono ?_
    rintro e Z ⟨rfl, ⟨q, rfl⟩⟩
    cases hC : carrB (bC b) with
    | false =>
      have HCe := Aside0.mk hC
      clear hC
      go_wp2_with fail
      go_ret
      exact ⟨by rw [show badB prev b = true by simp only [badB, HRe.out, HCe.out, Bool.not_false, Bool.true_or, Bool.or_true]]; rfl, HYE.out, HYT.out.drewN q⟩
    | true =>
      have HCe := Aside0.mk hC
      clear hC
      by_cases hl : bF b < bT prev
      · have hlb : decide (bF b < bT prev) = true := decide_eq_true hl
        clear hl
        go_wp2_with fail
        go_ret
        exact ⟨by rw [show badB prev b = true by simp only [badB, HRe.out, HCe.out, hlb, Bool.not_true, Bool.or_true, Bool.true_or]]; rfl, HYE.out, HYT.out.drewN q⟩
      · have hlb : decide (bF b < bT prev) = false := decide_eq_false hl
        clear hl
        go_wp2_with fail
        go_ret
        exact ⟨by rw [show badB prev b = (bF b == bT prev && bC b == bC prev) by simp only [badB, HRe.out, HCe.out, hlb, Bool.not_true, Bool.false_or]]; exact congrArg _ (congrArg _ rfl), HYE.out, HYT.out.drewN q⟩

set_option maxHeartbeats 2000000 in
theorem valid_calls (l : List S53) (A : Option Addr) (c : Nat) (w : World) (hl : Kd.C k53 w A l.length l) :
    Calls Try.prog 23 #[.slice A l.length c] w fun e w' => e = .returned (.bool (validP l)) ∧ Below w.heap.size w w' := by
  by_cases h40 : l.length ≤ 40
  · have hb : decide ((l.length : Int) ≤ 40) = true := decide_eq_true (by omega)
    have hnew : (w.alloc (.cells #[.int .i64 0, .int .i64 0, .int .i64 (-1)] 53)).heap[w.heap.size]? = some (.cells (a3 b00) 53 (0, 0)) := blk_new w _
    have hbel : Below w.heap.size w (w.alloc (.cells #[.int .i64 0, .int .i64 0, .int .i64 (-1)] 53)) := (Below.refl _ _).alloc (Nat.le_refl _) _
    have H := contains_calls l A c 55 #[.pointer (some ⟨w.heap.size, 0, none⟩)] (fun j => badB ((b00 :: l).getD j z53) (l.getD j z53))
      (fun i W => W.heap[w.heap.size]? = some (.cells (a3 ((b00 :: l).getD i z53)) 53 (0, 0)) ∧ Below w.heap.size w W) (fun _ W => Below w.heap.size w W) (w.alloc (.cells #[.int .i64 0, .int .i64 0, .int .i64 (-1)] 53))
      (enters_of Try.func55 (by kernel_rfl) rfl) (fun i W hW => C_same hl hW.2.block)
      (fun i W hi hW => (valid1_calls w.heap.size ((b00 :: l).getD i z53) (l.getD i z53) W hW.1).mono (fun e W' hh => by
        have hB : Below w.heap.size w W' := ⟨hh.2.2.os.trans hW.2.os, hh.2.2.tape.trans hW.2.tape, hh.2.2.output.trans hW.2.output, Nat.le_trans hW.2.size hh.2.2.size, fun k hk => (hh.2.2.block k (Nat.lt_of_lt_of_le hk hW.2.size) (by omega)).trans (hW.2.block k hk)⟩
        exact ⟨hh.1, fun _ => ⟨by rw [List.getD_cons_succ]; exact hh.2.1, hB⟩, fun _ => hB⟩)) ⟨hnew, hbel⟩
    have H' := Aside0.mk H
    have HL := Aside0.mk h40
    clear H hnew hbel hl h40
    go_enter Try.func23, Try.ntmps23
    go_wp2_with fail
    refine H'.out.mono ?_
    rintro e w1 (⟨i, hi, hp, hn, rfl, hx⟩ | ⟨hn, rfl, hx⟩)
    · have HX := Aside0.mk hx
      have hv : validP l = false := by
        rw [validP, Bool.and_eq_false_iff]
        refine .inr ?_
        rw [← Bool.not_eq_true]
        intro h
        have := (validFrom_iff l b00).1 h i hi
        exact absurd (this.symm.trans hp) (by simp)
      have HV := Aside0.mk hv
      clear hn hp hx hv hi
      simp only [encO, Option.isSome]
      go_wp2
      go_ret
      exact ⟨by rw [HV.out]; rfl, HX.out⟩
    · have HX := Aside0.mk hx.2
      have hv : validP l = true := by
        rw [validP, Bool.and_eq_true]
        exact ⟨decide_eq_true HL.out, (validFrom_iff l b00).2 hn⟩
      have HV := Aside0.mk hv
      clear hn hx hv
      simp only [encO, Option.isSome]
      go_wp2
      go_ret
      exact ⟨by rw [HV.out]; rfl, HX.out⟩
  · have hb : decide ((l.length : Int) ≤ 40) = false := decide_eq_false (by omega)
    have hv : validP l = false := by rw [validP, Bool.and_eq_false_iff]; exact .inl (decide_eq_false h40)
    rw [hv]
    clear hl h40 hv
    go_enter Try.func23, Try.ntmps23
    go_wp2_with fail
    go_ret
    exact ⟨rfl, (Below.refl _ _).alloc (Nat.le_refl _) _⟩
end Go.Proofs.Ytdflgjgoikofaaa.Bk

namespace Go.Proofs.Ytdflgjgoikofaaa.Bk
open Go.RowKit Go.Shelf Go.Proofs.YtdflgjgoikofaaaW.PrintWords Go.Proofs.YtdflgjgoikofaaaW.PrintLast Go.Proofs.YtdflgjgoikofaaaW.PrintMore
open Go.Proofs.Ytdflgjgoikofaaa.Ref Go.Proofs.Ytdflgjgoikofaaa.Pl Go.Proofs.Ytdflgjgoikofaaa.Rg

/-- A map and an error code handed back: the map lies in new memory. -/
def MapRes (r : List S53 × Int) (w : World) (e : Ending) (w' : World) : Prop :=
  ∃ v : Value, e = .returned (.tuple #[v, .int .i64 r.2]) ∧ Kd.R k53 53 w' w.heap.size (fun _ => True) v r.1 ∧ Below w.heap.size w w'
theorem MapRes.err (w w' : World) (h : Below w.heap.size w w') : MapRes errR w (.returned (.tuple #[.slice none 0 0, .int .i64 130])) w' := ⟨_, rfl, Kd.R_nil _ _ _ _ _, h⟩

theorem over_calls (x y : Int) (w : World) : Calls Try.prog 51 #[.int .i64 x, .int .i64 y] w fun e w' => e = .returned (.int .i64 (overP x y)) ∧ ∃ q, w' = w.drewN q := by
  refine (block_over.calls x y (overP x y) w ?_).mono ?_
  · unfold block_over.f overP; split <;> rfl
  · rintro e w' ⟨rfl, ⟨q, rfl⟩⟩; exact ⟨rfl, q, rfl⟩
theorem away_calls (x y : Int) (w : World) : Calls Try.prog 52 #[.int .i64 x, .int .i64 y] w fun e w' => e = .returned (.int .i64 (awayP x y)) ∧ ∃ q, w' = w.drewN q := by
  unfold awayP
  by_cases h : y = -1
  · have hb : (y == -1) = true := beq_iff_eq.mpr h
    rw [if_pos h]
    clear h
    go_enter Try.func52, Try.ntmps52
    go_wp2
    go_ret
    exact ⟨rfl, 0, rfl⟩
  · have hb : (y == -1) = false := beq_eq_false_iff_ne.mpr h
    rw [if_neg h]
    clear h
    go_enter Try.func52, Try.ntmps52
    go_wp2
    go_ret
    exact ⟨rfl, 0, rfl⟩
theorem only_calls (x y : Int) (w : World) : Calls Try.prog 53 #[.int .i64 x, .int .i64 y] w fun e w' => e = .returned (.int .i64 (onlyP x y)) ∧ ∃ q, w' = w.drewN q := by
  unfold onlyP
  by_cases h : y = -1
  · have hb : (y == -1) = true := beq_iff_eq.mpr h
    rw [if_pos h]
    clear h
    go_enter Try.func53, Try.ntmps53
    go_wp2
    go_ret
    exact ⟨rfl, 0, rfl⟩
  · have hb : (y == -1) = false := beq_eq_false_iff_ne.mpr h
    rw [if_neg h]
    clear h
    go_enter Try.func53, Try.ntmps53
    go_wp2
    go_ret
    exact ⟨rfl, 0, rfl⟩
theorem swap1_calls (x y f t : Int) (F T : Nat) (w : World) (hF : w.cell? ⟨F, 0, none⟩ = some (.int .i64 f)) (hT : w.cell? ⟨T, 0, none⟩ = some (.int .i64 t)) :
    Calls Try.prog 54 #[.int .i64 x, .int .i64 y, .pointer (some ⟨F, 0, none⟩), .pointer (some ⟨T, 0, none⟩)] w fun e w' => e = .returned (.int .i64 (swapP f t x y)) ∧ ∃ q, w' = w.drewN q := by
  unfold swapP
  by_cases h : x = f
  · have hb : (x == f) = true := beq_iff_eq.mpr h
    rw [if_pos h]
    clear h
    go_enter Try.func54, Try.ntmps54
    go_wp2
    go_ret
    exact ⟨rfl, 0, rfl⟩
  · have hb : (x == f) = false := beq_eq_false_iff_ne.mpr h
    rw [if_neg h]
    clear h
    go_enter Try.func54, Try.ntmps54
    go_wp2
    go_ret
    exact ⟨rfl, 0, rfl⟩

/-- block.combine over two valid maps. -/
theorem comb_calls (a b : List S53) (Aa Ab : Option Addr) (ca cb : Nat) (g : Nat) (lb : Array Value) (h : Int → Int → Int) (w : World)
    (ha : Kd.C k53 w Aa a.length a) (hb : Kd.C k53 w Ab b.length b) (hca : a.length ≤ ca) (hcb : b.length ≤ cb) (la : a.length ≤ 40) (lb' : b.length ≤ 40)
    (eg : ∀ args w, (callFunc g args).run Try.prog w = .ok (.enter g args) w)
    (hh : ∀ (x y : Int) (W : World), (∀ k, k < w.heap.size → W.heap[k]? = w.heap[k]?) → Calls Try.prog g (#[.int .i64 x, .int .i64 y] ++ lb) W fun e w' => e = .returned (.int .i64 (h x y)) ∧ ∃ q, w' = W.drewN q) :
    Calls Try.prog 49 #[.slice Aa a.length ca, .slice Ab b.length cb, .func (.func g) #[] lb] w (MapRes (fin (combP h (pieces a b))) w) := by
  obtain ⟨h1, h2⟩ := pieces_some a b
  refine (combine_calls _ a b (pieces a b) Aa Ab ca cb g lb h w ha hb hca hcb h1 (by omega) eg hh).mono ?_
  rintro e w' ⟨v, rfl, hR, hB⟩
  refine ⟨v, ?_, ?_, hB⟩
  · unfold fin; split <;> rfl
  · unfold fin; split
    · rename_i h40; rw [if_pos h40] at hR; exact hR
    · rename_i h40; rw [if_neg h40] at hR; exact hR
end Go.Proofs.Ytdflgjgoikofaaa.Bk

namespace Go.Proofs.Ytdflgjgoikofaaa.Bk
open Go.RowKit Go.Shelf Go.Proofs.YtdflgjgoikofaaaW.PrintWords Go.Proofs.YtdflgjgoikofaaaW.PrintLast Go.Proofs.YtdflgjgoikofaaaW.PrintMore
open Go.Proofs.Ytdflgjgoikofaaa.Ref Go.Proofs.Ytdflgjgoikofaaa.Pl Go.Proofs.Ytdflgjgoikofaaa.Rg

theorem on_calls (f t k : Int) (w : World) : Calls Try.prog 50 #[.agg #[.int .i64 f, .int .i64 t], .int .i64 k] w fun e w' => ∃ A c, e = .returned (.slice A 1 c) ∧ 1 ≤ c ∧ Kd.C k53 w' A 1 [⟨⟨f, t⟩, k⟩] ∧ Below w.heap.size w w' := by
  refine (block_on.calls f t k [⟨⟨f, t⟩, k⟩] w rfl).mono ?_
  rintro e w' ⟨v, rfl, hR, hB⟩
  obtain ⟨A, c, rfl, hc, hC⟩ := Kd.R_reads hR
  exact ⟨A, c, rfl, hc, hC, hB⟩
theorem MapRes.later {r : List S53 × Int} {w w1 : World} {e : Ending} {w' : World} (h : MapRes r w1 e w') (hb : Below w.heap.size w w1) : MapRes r w e w' := by
  obtain ⟨v, rfl, hR, hB⟩ := h
  exact ⟨v, rfl, Kd.R_lower hR hb.size, hb.trans (hB.mono hb.size)⟩

set_option maxHeartbeats 2000000 in
theorem give_calls (l : List S53) (A : Option Addr) (c : Nat) (f t k : Int) (w : World) (hl : Kd.C k53 w A l.length l) (hc : l.length ≤ c) :
    Calls Try.prog 18 #[.slice A l.length c, .agg #[.int .i64 f, .int .i64 t], .int .i64 k] w (MapRes (giveP l f t k) w) := by
  have hX := blk_new w (.cells #[.int .i64 f, .int .i64 t] 26)
  have hXB := (Below.refl _ w).alloc (Nat.le_refl _) (.cells #[.int .i64 f, .int .i64 t] 26)
  have HL := Aside0.mk hl
  have HC := Aside0.mk hc
  have HX := Aside0.mk hX
  have HXB := Aside0.mk hXB
  clear hl hc hX hXB
  cases hv : validP l with
  | false =>
    have e1 : giveP l f t k = errR := by simp only [giveP, hv, Bool.false_and]; rfl
    rw [e1]
    clear e1
    go_enter Try.func18, Try.ntmps18
    go_wp2_with fail
    refine (valid_calls l A c _ (Kd.C_below HL.out HXB.out)).mono ?_
    rintro e w1 ⟨rfl, hb⟩
    have HB := Aside0.mk (below_step HXB.out hb)
    clear hb
    rw [hv]
    clear hv
    go_wp2_with fail
    go_ret2
    exact ⟨_, rfl, Kd.R_nil _ _ _ _ _, HB.out⟩
  | true =>
    have hlen := validP_len hv
    cases hr : rangeB f t with
    | false =>
      have e1 : giveP l f t k = errR := by simp only [giveP, hr, Bool.false_and, Bool.and_false]; rfl
      rw [e1]
      clear e1
      go_enter Try.func18, Try.ntmps18
      go_wp2_with fail
      refine (valid_calls l A c _ (Kd.C_below HL.out HXB.out)).mono ?_
      rintro e w1 ⟨rfl, hb⟩
      have HB := Aside0.mk (below_step HXB.out hb)
      have HX1 := Aside0.mk (blk_below HX.out hb)
      have k0 : w1.cell? ⟨w.heap.size, 0, none⟩ = some (.int .i64 f) := (blk_cell HX1.out 0).trans rfl
      have k1 : w1.cell? ⟨w.heap.size, 1, none⟩ = some (.int .i64 t) := (blk_cell HX1.out 1).trans rfl
      clear hb
      rw [hv]
      clear hv hlen
      go_wp2_with fail
      refine (isRange_calls f t w1).mono ?_
      rintro e w2 ⟨rfl, hb⟩
      have HB2 := Aside0.mk (below_step HB.out hb)
      clear hb k0 k1
      rw [hr]
      clear hr
      go_wp2_with fail
      go_ret2
      exact ⟨_, rfl, Kd.R_nil _ _ _ _ _, HB2.out⟩
    | true =>
     cases hk : carrB k with
     | false =>
      have e1 : giveP l f t k = errR := by simp only [giveP, hk, Bool.and_false]; rfl
      rw [e1]
      clear e1
      go_enter Try.func18, Try.ntmps18
      go_wp2_with fail
      refine (valid_calls l A c _ (Kd.C_below HL.out HXB.out)).mono ?_
      rintro e w1 ⟨rfl, hb⟩
      have HB := Aside0.mk (below_step HXB.out hb)
      have HX1 := Aside0.mk (blk_below HX.out hb)
      have k0 : w1.cell? ⟨w.heap.size, 0, none⟩ = some (.int .i64 f) := (blk_cell HX1.out 0).trans rfl
      have k1 : w1.cell? ⟨w.heap.size, 1, none⟩ = some (.int .i64 t) := (blk_cell HX1.out 1).trans rfl
      clear hb
      rw [hv]
      go_wp2_with fail
      refine (isRange_calls f t w1).mono ?_
      rintro e w2 ⟨rfl, hb⟩
      have HB2 := Aside0.mk (below_step HB.out hb)
      have HX2 := Aside0.mk (blk_below HX1.out hb)
      clear hb k0 k1
      have k0 : w2.cell? ⟨w.heap.size, 0, none⟩ = some (.int .i64 f) := (blk_cell HX2.out 0).trans rfl
      have k1 : w2.cell? ⟨w.heap.size, 1, none⟩ = some (.int .i64 t) := (blk_cell HX2.out 1).trans rfl
      rw [hr]
      clear hv hr hlen
      go_wp2_with fail
      refine (isCarrier_calls k w2).mono ?_
      rintro e w3 ⟨rfl, ⟨q, rfl⟩⟩
      rw [hk]
      clear hk
      go_wp2_with fail
      go_ret2
      exact ⟨_, rfl, Kd.R_nil _ _ _ _ _, HB2.out.trans (pw_below_drewN (Below.refl _ _) q)⟩
     | true =>
      have e1 : giveP l f t k = fin (combP overP (pieces l [⟨⟨f, t⟩, k⟩])) := by simp only [giveP, hv, hr, hk, Bool.and_self, if_true]
      rw [e1]
      clear e1
      go_enter Try.func18, Try.ntmps18
      go_wp2_with fail
      refine (valid_calls l A c _ (Kd.C_below HL.out HXB.out)).mono ?_
      rintro e w1 ⟨rfl, hb⟩
      have HB := Aside0.mk (below_step HXB.out hb)
      have HX1 := Aside0.mk (blk_below HX.out hb)
      have k0 : w1.cell? ⟨w.heap.size, 0, none⟩ = some (.int .i64 f) := (blk_cell HX1.out 0).trans rfl
      have k1 : w1.cell? ⟨w.heap.size, 1, none⟩ = some (.int .i64 t) := (blk_cell HX1.out 1).trans rfl
      clear hb
      rw [hv]
      go_wp2_with fail
      refine (isRange_calls f t w1).mono ?_
      rintro e w2 ⟨rfl, hb⟩
      have HB2 := Aside0.mk (below_step HB.out hb)
      have HX2 := Aside0.mk (blk_below HX1.out hb)
      clear hb k0 k1
      have k0 : w2.cell? ⟨w.heap.size, 0, none⟩ = some (.int .i64 f) := (blk_cell HX2.out 0).trans rfl
      have k1 : w2.cell? ⟨w.heap.size, 1, none⟩ = some (.int .i64 t) := (blk_cell HX2.out 1).trans rfl
      rw [hr]
      have HLEN := Aside0.mk hlen
      clear hv hr hlen
      go_wp2_with fail
      refine (isCarrier_calls k w2).mono ?_
      rintro e w3 ⟨rfl, ⟨q, rfl⟩⟩
      have HB3 := Aside0.mk (pw_below_drewN HB2.out q)
      rw [hk]
      clear hk
      go_wp2_with fail
      refine (on_calls f t k _).mono ?_
      rintro e w4 ⟨Ao, co, rfl, hco, hCo, hb⟩
      have HB4 := Aside0.mk (below_step HB3.out hb)
      have HCo := Aside0.mk hCo
      have HCO := Aside0.mk hco
      clear hb hCo hco k0 k1
      go_wp2_with fail
      refine (comb_calls l [⟨⟨f, t⟩, k⟩] A Ao c co 51 #[] overP w4 (Kd.C_below HL.out HB4.out) HCo.out HC.out HCO.out HLEN.out (by simp) (enters_of Try.func51 (by kernel_rfl) rfl) (fun x y W _ => over_calls x y W)).mono ?_
      intro e w5 h5
      obtain ⟨v, rfl, hR, hb5⟩ := h5.later HB4.out
      have HR := Aside0.mk hR
      have HB5 := Aside0.mk hb5
      clear h5 hR hb5
      go_wp2_with fail
      go_ret2
      exact ⟨v, rfl, HR.out, HB5.out⟩

set_option maxHeartbeats 2000000 in
theorem take_calls (l : List S53) (A : Option Addr) (c : Nat) (f t : Int) (w : World) (hl : Kd.C k53 w A l.length l) (hc : l.length ≤ c) :
    Calls Try.prog 19 #[.slice A l.length c, .agg #[.int .i64 f, .int .i64 t]] w (MapRes (takeP l f t) w) := by
  have hX := blk_new w (.cells #[.int .i64 f, .int .i64 t] 26)
  have hXB := (Below.refl _ w).alloc (Nat.le_refl _) (.cells #[.int .i64 f, .int .i64 t] 26)
  have HL := Aside0.mk hl
  have HC := Aside0.mk hc
  have HX := Aside0.mk hX
  have HXB := Aside0.mk hXB
  clear hl hc hX hXB
  cases hv : validP l with
  | false =>
    have e1 : takeP l f t = errR := by simp only [takeP, hv, Bool.false_and]; rfl
    rw [e1]
    clear e1
    go_enter Try.func19, Try.ntmps19
    go_wp2_with fail
    refine (valid_calls l A c _ (Kd.C_below HL.out HXB.out)).mono ?_
    rintro e w1 ⟨rfl, hb⟩
    have HB := Aside0.mk (below_step HXB.out hb)
    clear hb
    rw [hv]
    clear hv
    go_wp2_with fail
    go_ret2
    exact ⟨_, rfl, Kd.R_nil _ _ _ _ _, HB.out⟩
  | true =>
    have hlen := validP_len hv
    cases hr : rangeB f t with
    | false =>
      have e1 : takeP l f t = errR := by simp only [takeP, hr, Bool.false_and, Bool.and_false]; rfl
      rw [e1]
      clear e1
      go_enter Try.func19, Try.ntmps19
      go_wp2_with fail
      refine (valid_calls l A c _ (Kd.C_below HL.out HXB.out)).mono ?_
      rintro e w1 ⟨rfl, hb⟩
      have HB := Aside0.mk (below_step HXB.out hb)
      have HX1 := Aside0.mk (blk_below HX.out hb)
      have k0 : w1.cell? ⟨w.heap.size, 0, none⟩ = some (.int .i64 f) := (blk_cell HX1.out 0).trans rfl
      have k1 : w1.cell? ⟨w.heap.size, 1, none⟩ = some (.int .i64 t) := (blk_cell HX1.out 1).trans rfl
      clear hb
      rw [hv]
      clear hv hlen
      go_wp2_with fail
      refine (isRange_calls f t w1).mono ?_
      rintro e w2 ⟨rfl, hb⟩
      have HB2 := Aside0.mk (below_step HB.out hb)
      clear hb k0 k1
      rw [hr]
      clear hr
      go_wp2_with fail
      go_ret2
      exact ⟨_, rfl, Kd.R_nil _ _ _ _ _, HB2.out⟩
    | true =>
      have e1 : takeP l f t = fin (combP awayP (pieces l [⟨⟨f, t⟩, 0⟩])) := by simp only [takeP, hv, hr, Bool.and_self, if_true]
      rw [e1]
      clear e1
      go_enter Try.func19, Try.ntmps19
      go_wp2_with fail
      refine (valid_calls l A c _ (Kd.C_below HL.out HXB.out)).mono ?_
      rintro e w1 ⟨rfl, hb⟩
      have HB := Aside0.mk (below_step HXB.out hb)
      have HX1 := Aside0.mk (blk_below HX.out hb)
      have k0 : w1.cell? ⟨w.heap.size, 0, none⟩ = some (.int .i64 f) := (blk_cell HX1.out 0).trans rfl
      have k1 : w1.cell? ⟨w.heap.size, 1, none⟩ = some (.int .i64 t) := (blk_cell HX1.out 1).trans rfl
      clear hb
      rw [hv]
      go_wp2_with fail
      refine (isRange_calls f t w1).mono ?_
      rintro e w2 ⟨rfl, hb⟩
      have HB2 := Aside0.mk (below_step HB.out hb)
      have HX2 := Aside0.mk (blk_below HX1.out hb)
      clear hb k0 k1
      have k0 : w2.cell? ⟨w.heap.size, 0, none⟩ = some (.int .i64 f) := (blk_cell HX2.out 0).trans rfl
      have k1 : w2.cell? ⟨w.heap.size, 1, none⟩ = some (.int .i64 t) := (blk_cell HX2.out 1).trans rfl
      rw [hr]
      have HLEN := Aside0.mk hlen
      clear hv hr hlen
      go_wp2_with fail
      refine (on_calls f t 0 w2).mono ?_
      rintro e w4 ⟨Ao, co, rfl, hco, hCo, hb⟩
      have HB4 := Aside0.mk (below_step HB2.out hb)
      have HCo := Aside0.mk hCo
      have HCO := Aside0.mk hco
      clear hb hCo hco k0 k1
      go_wp2_with fail
      refine (comb_calls l [⟨⟨f, t⟩, 0⟩] A Ao c co 52 #[] awayP w4 (Kd.C_below HL.out HB4.out) HCo.out HC.out HCO.out HLEN.out (by simp) (enters_of Try.func52 (by kernel_rfl) rfl) (fun x y W _ => away_calls x y W)).mono ?_
      intro e w5 h5
      obtain ⟨v, rfl, hR, hb5⟩ := h5.later HB4.out
      have HR := Aside0.mk hR
      have HB5 := Aside0.mk hb5
      clear h5 hR hb5
      go_wp2_with fail
      go_ret2
      exact ⟨v, rfl, HR.out, HB5.out⟩

set_option maxHeartbeats 2000000 in
theorem onlyF_calls (l : List S53) (A : Option Addr) (c : Nat) (f t : Int) (w : World) (hl : Kd.C k53 w A l.length l) (hc : l.length ≤ c) :
    Calls Try.prog 20 #[.slice A l.length c, .agg #[.int .i64 f, .int .i64 t]] w (MapRes (onlyR l f t) w) := by
  have hX := blk_new w (.cells #[.int .i64 f, .int .i64 t] 26)
  have hXB := (Below.refl _ w).alloc (Nat.le_refl _) (.cells #[.int .i64 f, .int .i64 t] 26)
  have HL := Aside0.mk hl
  have HC := Aside0.mk hc
  have HX := Aside0.mk hX
  have HXB := Aside0.mk hXB
  clear hl hc hX hXB
  cases hv : validP l with
  | false =>
    have e1 : onlyR l f t = errR := by simp only [onlyR, hv, Bool.false_and]; rfl
    rw [e1]
    clear e1
    go_enter Try.func20, Try.ntmps20
    go_wp2_with fail
    refine (valid_calls l A c _ (Kd.C_below HL.out HXB.out)).mono ?_
    rintro e w1 ⟨rfl, hb⟩
    have HB := Aside0.mk (below_step HXB.out hb)
    clear hb
    rw [hv]
    clear hv
    go_wp2_with fail
    go_ret2
    exact ⟨_, rfl, Kd.R_nil _ _ _ _ _, HB.out⟩
  | true =>
    have hlen := validP_len hv
    cases hr : rangeB f t with
    | false =>
      have e1 : onlyR l f t = errR := by simp only [onlyR, hr, Bool.false_and, Bool.and_false]; rfl
      rw [e1]
      clear e1
      go_enter Try.func20, Try.ntmps20
      go_wp2_with fail
      refine (valid_calls l A c _ (Kd.C_below HL.out HXB.out)).mono ?_
      rintro e w1 ⟨rfl, hb⟩
      have HB := Aside0.mk (below_step HXB.out hb)
      have HX1 := Aside0.mk (blk_below HX.out hb)
      have k0 : w1.cell? ⟨w.heap.size, 0, none⟩ = some (.int .i64 f) := (blk_cell HX1.out 0).trans rfl
      have k1 : w1.cell? ⟨w.heap.size, 1, none⟩ = some (.int .i64 t) := (blk_cell HX1.out 1).trans rfl
      clear hb
      rw [hv]
      clear hv hlen
      go_wp2_with fail
      refine (isRange_calls f t w1).mono ?_
      rintro e w2 ⟨rfl, hb⟩
      have HB2 := Aside0.mk (below_step HB.out hb)
      clear hb k0 k1
      rw [hr]
      clear hr
      go_wp2_with fail
      go_ret2
      exact ⟨_, rfl, Kd.R_nil _ _ _ _ _, HB2.out⟩
    | true =>
      have e1 : onlyR l f t = fin (combP onlyP (pieces l [⟨⟨f, t⟩, 0⟩])) := by simp only [onlyR, hv, hr, Bool.and_self, if_true]
      rw [e1]
      clear e1
      go_enter Try.func20, Try.ntmps20
      go_wp2_with fail
      refine (valid_calls l A c _ (Kd.C_below HL.out HXB.out)).mono ?_
      rintro e w1 ⟨rfl, hb⟩
      have HB := Aside0.mk (below_step HXB.out hb)
      have HX1 := Aside0.mk (blk_below HX.out hb)
      have k0 : w1.cell? ⟨w.heap.size, 0, none⟩ = some (.int .i64 f) := (blk_cell HX1.out 0).trans rfl
      have k1 : w1.cell? ⟨w.heap.size, 1, none⟩ = some (.int .i64 t) := (blk_cell HX1.out 1).trans rfl
      clear hb
      rw [hv]
      go_wp2_with fail
      refine (isRange_calls f t w1).mono ?_
      rintro e w2 ⟨rfl, hb⟩
      have HB2 := Aside0.mk (below_step HB.out hb)
      have HX2 := Aside0.mk (blk_below HX1.out hb)
      clear hb k0 k1
      have k0 : w2.cell? ⟨w.heap.size, 0, none⟩ = some (.int .i64 f) := (blk_cell HX2.out 0).trans rfl
      have k1 : w2.cell? ⟨w.heap.size, 1, none⟩ = some (.int .i64 t) := (blk_cell HX2.out 1).trans rfl
      rw [hr]
      have HLEN := Aside0.mk hlen
      clear hv hr hlen
      go_wp2_with fail
      refine (on_calls f t 0 w2).mono ?_
      rintro e w4 ⟨Ao, co, rfl, hco, hCo, hb⟩
      have HB4 := Aside0.mk (below_step HB2.out hb)
      have HCo := Aside0.mk hCo
      have HCO := Aside0.mk hco
      clear hb hCo hco k0 k1
      go_wp2_with fail
      refine (comb_calls l [⟨⟨f, t⟩, 0⟩] A Ao c co 53 #[] onlyP w4 (Kd.C_below HL.out HB4.out) HCo.out HC.out HCO.out HLEN.out (by simp) (enters_of Try.func53 (by kernel_rfl) rfl) (fun x y W _ => only_calls x y W)).mono ?_
      intro e w5 h5
      obtain ⟨v, rfl, hR, hb5⟩ := h5.later HB4.out
      have HR := Aside0.mk hR
      have HB5 := Aside0.mk hb5
      clear h5 hR hb5
      go_wp2_with fail
      go_ret2
      exact ⟨v, rfl, HR.out, HB5.out⟩
end Go.Proofs.Ytdflgjgoikofaaa.Bk

namespace Go.Proofs.Ytdflgjgoikofaaa.Bk
open Go.RowKit Go.Shelf Go.Proofs.YtdflgjgoikofaaaW.PrintWords Go.Proofs.YtdflgjgoikofaaaW.PrintLast Go.Proofs.YtdflgjgoikofaaaW.PrintMore
open Go.Proofs.Ytdflgjgoikofaaa.Ref Go.Proofs.Ytdflgjgoikofaaa.Pl Go.Proofs.Ytdflgjgoikofaaa.Rg

set_option maxHeartbeats 2000000 in
theorem overlay_calls (a b : List S53) (A B : Option Addr) (ca cb : Nat) (w : World) (ha : Kd.C k53 w A a.length a) (hb : Kd.C k53 w B b.length b) (hca : a.length ≤ ca) (hcb : b.length ≤ cb) :
    Calls Try.prog 21 #[.slice A a.length ca, .slice B b.length cb] w (MapRes (overlayP a b) w) := by
  have HA := Aside0.mk ha
  have HB := Aside0.mk hb
  have HCA := Aside0.mk hca
  have HCB := Aside0.mk hcb
  clear ha hb hca hcb
  cases hv : validP a with
  | false =>
    have e1 : overlayP a b = errR := by simp only [overlayP, hv, Bool.false_and]; rfl
    rw [e1]
    clear e1
    go_enter Try.func21, Try.ntmps21
    go_wp2_with fail
    refine (valid_calls a A ca _ HA.out).mono ?_
    rintro e w1 ⟨rfl, h1⟩
    have H1 := Aside0.mk h1
    clear h1
    rw [hv]
    clear hv
    go_wp2_with fail
    go_ret2
    exact ⟨_, rfl, Kd.R_nil _ _ _ _ _, H1.out⟩
  | true =>
    have hla := validP_len hv
    cases hv2 : validP b with
    | false =>
      have e1 : overlayP a b = errR := by simp only [overlayP, hv2, Bool.and_false]; rfl
      rw [e1]
      clear e1
      go_enter Try.func21, Try.ntmps21
      go_wp2_with fail
      refine (valid_calls a A ca _ HA.out).mono ?_
      rintro e w1 ⟨rfl, h1⟩
      have H1 := Aside0.mk h1
      clear h1 hla
      rw [hv]
      clear hv
      go_wp2_with fail
      refine (valid_calls b B cb w1 (Kd.C_below HB.out H1.out)).mono ?_
      rintro e w2 ⟨rfl, h2⟩
      have H2 := Aside0.mk (below_step H1.out h2)
      clear h2
      rw [hv2]
      clear hv2
      go_wp2_with fail
      go_ret2
      exact ⟨_, rfl, Kd.R_nil _ _ _ _ _, H2.out⟩
    | true =>
      have hlb := validP_len hv2
      have e1 : overlayP a b = fin (combP overP (pieces a b)) := by simp only [overlayP, hv, hv2, Bool.and_self, if_true]
      rw [e1]
      clear e1
      have HLA := Aside0.mk hla
      have HLB := Aside0.mk hlb
      clear hla hlb
      go_enter Try.func21, Try.ntmps21
      go_wp2_with fail
      refine (valid_calls a A ca _ HA.out).mono ?_
      rintro e w1 ⟨rfl, h1⟩
      have H1 := Aside0.mk h1
      clear h1
      rw [hv]
      clear hv
      go_wp2_with fail
      refine (valid_calls b B cb w1 (Kd.C_below HB.out H1.out)).mono ?_
      rintro e w2 ⟨rfl, h2⟩
      have H2 := Aside0.mk (below_step H1.out h2)
      clear h2
      rw [hv2]
      clear hv2
      go_wp2_with fail
      refine (comb_calls a b A B ca cb 51 #[] overP w2 (Kd.C_below HA.out H2.out) (Kd.C_below HB.out H2.out) HCA.out HCB.out HLA.out HLB.out (enters_of Try.func51 (by kernel_rfl) rfl) (fun x y W _ => over_calls x y W)).mono ?_
      intro e w5 h5
      obtain ⟨v, rfl, hR, hb5⟩ := h5.later H2.out
      have HR := Aside0.mk hR
      have HB5 := Aside0.mk hb5
      clear h5 hR hb5
      go_wp2_with fail
      go_ret2
      exact ⟨v, rfl, HR.out, HB5.out⟩

theorem swap_world (w : World) (f t : Int) : ((w.alloc (.cells #[.int .i64 f] 3)).alloc (.cells #[.int .i64 t] 3)).heap[w.heap.size]? = some (.cells #[.int .i64 f] 3 (0, 0)) ∧
    ((w.alloc (.cells #[.int .i64 f] 3)).alloc (.cells #[.int .i64 t] 3)).heap[w.heap.size + 1]? = some (.cells #[.int .i64 t] 3 (0, 0)) ∧ Below w.heap.size w ((w.alloc (.cells #[.int .i64 f] 3)).alloc (.cells #[.int .i64 t] 3)) := by
  refine ⟨blk_alloc (blk_new w _) _, ?_, ((Below.refl _ w).alloc (Nat.le_refl _) _).alloc (by simp) _⟩
  have := blk_new (w.alloc (.cells #[.int .i64 f] 3)) (.cells #[.int .i64 t] 3)
  rwa [World.size_alloc] at this

set_option maxHeartbeats 2000000 in
theorem swap_calls (l : List S53) (A : Option Addr) (c : Nat) (f t : Int) (w : World) (hl : Kd.C k53 w A l.length l) (hc : l.length ≤ c) :
    Calls Try.prog 22 #[.slice A l.length c, .int .i64 f, .int .i64 t] w (MapRes (swapR l f t) w) := by
  obtain ⟨hX, hY, hXB⟩ := swap_world w f t
  have HL := Aside0.mk hl
  have HC := Aside0.mk hc
  have HX := Aside0.mk hX
  have HY := Aside0.mk hY
  have HXB := Aside0.mk hXB
  clear hl hc hX hY hXB
  cases hv : validP l with
  | false =>
    have e1 : swapR l f t = errR := by simp only [swapR, hv, Bool.false_and]; rfl
    rw [e1]
    clear e1
    go_enter Try.func22, Try.ntmps22
    go_wp2_with fail
    refine (valid_calls l A c _ (Kd.C_below HL.out HXB.out)).mono ?_
    rintro e w1 ⟨rfl, hb⟩
    have HB := Aside0.mk (below_step HXB.out hb)
    clear hb
    rw [hv]
    clear hv
    go_wp2_with fail
    go_ret2
    exact ⟨_, rfl, Kd.R_nil _ _ _ _ _, HB.out⟩
  | true =>
    have hlen := validP_len hv
    cases hr : carrB f with
    | false =>
      have e1 : swapR l f t = errR := by simp only [swapR, hr, Bool.false_and, Bool.and_false]; rfl
      rw [e1]
      clear e1
      go_enter Try.func22, Try.ntmps22
      go_wp2_with fail
      refine (valid_calls l A c _ (Kd.C_below HL.out HXB.out)).mono ?_
      rintro e w1 ⟨rfl, hb⟩
      have HB := Aside0.mk (below_step HXB.out hb)
      have HX1 := Aside0.mk (blk_below HX.out hb)
      have k0 : w1.cell? ⟨w.heap.size, 0, none⟩ = some (.int .i64 f) := (blk_cell HX1.out 0).trans rfl
      clear hb
      rw [hv]
      clear hv hlen
      go_wp2_with fail
      refine (isCarrier_calls f w1).mono ?_
      rintro e w2 ⟨rfl, ⟨q, rfl⟩⟩
      clear k0
      rw [hr]
      clear hr
      go_wp2_with fail
      go_ret2
      exact ⟨_, rfl, Kd.R_nil _ _ _ _ _, pw_below_drewN HB.out q⟩
    | true =>
      cases hk : carrB t with
      | false =>
        have e1 : swapR l f t = errR := by simp only [swapR, hk, Bool.and_false]; rfl
        rw [e1]
        clear e1
        go_enter Try.func22, Try.ntmps22
        go_wp2_with fail
        refine (valid_calls l A c _ (Kd.C_below HL.out HXB.out)).mono ?_
        rintro e w1 ⟨rfl, hb⟩
        have HB := Aside0.mk (below_step HXB.out hb)
        have HX1 := Aside0.mk (blk_below HX.out hb)
        have HY1 := Aside0.mk (blk_below HY.out hb)
        have k0 : w1.cell? ⟨w.heap.size, 0, none⟩ = some (.int .i64 f) := (blk_cell HX1.out 0).trans rfl
        have k1 : w1.cell? ⟨w.heap.size + 1, 0, none⟩ = some (.int .i64 t) := (blk_cell HY1.out 0).trans rfl
        clear hb
        rw [hv]
        clear hv hlen
        go_wp2_with fail
        refine (isCarrier_calls f w1).mono ?_
        rintro e w2 ⟨rfl, ⟨q, rfl⟩⟩
        rw [hr]
        clear hr
        go_wp2_with fail
        refine (isCarrier_calls t _).mono ?_
        rintro e w2 ⟨rfl, ⟨q2, rfl⟩⟩
        rw [hk]
        clear hk
        go_wp2_with fail
        go_ret2
        exact ⟨_, rfl, Kd.R_nil _ _ _ _ _, pw_below_drewN HB.out _⟩
      | true =>
        have e1 : swapR l f t = fin (combP (swapP f t) (pieces l [])) := by simp only [swapR, hv, hr, hk, Bool.and_self, if_true]
        rw [e1]
        clear e1
        have HLEN := Aside0.mk hlen
        clear hlen
        go_enter Try.func22, Try.ntmps22
        go_wp2_with fail
        refine (valid_calls l A c _ (Kd.C_below HL.out HXB.out)).mono ?_
        rintro e w1 ⟨rfl, hb⟩
        have HB := Aside0.mk (below_step HXB.out hb)
        have HX1 := Aside0.mk (blk_below HX.out hb)
        have HY1 := Aside0.mk (blk_below HY.out hb)
        have k0 : w1.cell? ⟨w.heap.size, 0, none⟩ = some (.int .i64 f) := (blk_cell HX1.out 0).trans rfl
        have k1 : w1.cell? ⟨w.heap.size + 1, 0, none⟩ = some (.int .i64 t) := (blk_cell HY1.out 0).trans rfl
        clear hb
        rw [hv]
        clear hv
        go_wp2_with fail
        refine (isCarrier_calls f w1).mono ?_
        rintro e w2 ⟨rfl, ⟨q, rfl⟩⟩
        rw [hr]
        clear hr
        go_wp2_with fail
        refine (isCarrier_calls t _).mono ?_
        rintro e w2 ⟨rfl, ⟨q2, rfl⟩⟩
        rw [hk]
        clear hk
        go_wp2_with fail
        refine (comb_calls l [] A none c 0 54 #[.pointer (some ⟨w.heap.size, 0, none⟩), .pointer (some ⟨w.heap.size + 1, 0, none⟩)] (swapP f t) (w1.drewN (q + q2)) (Kd.C_below HL.out (pw_below_drewN HB.out _)) (Kd.C_nil _ _) HC.out (by simp) HLEN.out (by simp) (enters_of Try.func54 (by kernel_rfl) rfl)
          (fun x y W hW => swap1_calls x y f t w.heap.size (w.heap.size + 1) W ((blk_cell ((hW _ (blk_lt HX1.out)).trans HX1.out) 0).trans rfl) ((blk_cell ((hW _ (blk_lt HY1.out)).trans HY1.out) 0).trans rfl))).mono ?_
        intro e w5 h5
        obtain ⟨v, rfl, hR, hb5⟩ := h5.later (pw_below_drewN HB.out (q + q2))
        have HR := Aside0.mk hR
        have HB5 := Aside0.mk hb5
        clear h5 hR hb5 k0 k1
        go_wp2_with fail
        go_ret2
        exact ⟨v, rfl, HR.out, HB5.out⟩
end Go.Proofs.Ytdflgjgoikofaaa.Bk

namespace Go.Proofs.Ytdflgjgoikofaaa.Bk
open Go.RowKit Go.Shelf Go.Proofs.YtdflgjgoikofaaaW.PrintWords Go.Proofs.YtdflgjgoikofaaaW.PrintLast Go.Proofs.YtdflgjgoikofaaaW.PrintMore
open Go.Proofs.Ytdflgjgoikofaaa.Ref Go.Proofs.Ytdflgjgoikofaaa.Pl Go.Proofs.Ytdflgjgoikofaaa.Rg

theorem find1_calls (b : S53) (n : Int) (N : Nat) (w : World) (hN : w.heap[N]? = some (.cells #[.int .i64 n] 3 (0, 0))) :
    Calls Try.prog 63 #[aggB b, .pointer (some ⟨N, 0, none⟩)] w fun e w' => e = .returned (.bool (holds n b)) ∧ Below w.heap.size w w' := by
  have hlt := blk_lt hN
  have k0 : w.cell? ⟨N, 0, none⟩ = some (.int .i64 n) := (blk_cell hN 0).trans rfl
  clear hN
  unfold aggB holds
  by_cases h1 : bF b ≤ n
  · have hb : decide (bF b ≤ n) = true := decide_eq_true h1
    by_cases h2 : n < bT b
    · have hb2 : decide (n < bT b) = true := decide_eq_true h2
      rw [hb, hb2]
      clear h1 h2
      go_enter Try.func63, Try.ntmps63
      go_wp2
      go_ret
      exact ⟨rfl, (Below.refl _ _).alloc (Nat.le_refl _) _⟩
    · have hb2 : decide (n < bT b) = false := decide_eq_false h2
      rw [hb, hb2]
      clear h1 h2
      go_enter Try.func63, Try.ntmps63
      go_wp2
      go_ret
      exact ⟨rfl, (Below.refl _ _).alloc (Nat.le_refl _) _⟩
  · have hb : decide (bF b ≤ n) = false := decide_eq_false h1
    rw [hb]
    clear h1
    go_enter Try.func63, Try.ntmps63
    go_wp2
    go_ret
    exact ⟨rfl, (Below.refl _ _).alloc (Nat.le_refl _) _⟩

set_option maxHeartbeats 2000000 in
theorem find_calls (l : List S53) (A : Option Addr) (c : Nat) (n : Int) (w : World) (hl : Kd.C k53 w A l.length l) :
    Calls Try.prog 38 #[.slice A l.length c, .int .i64 n] w fun e w' => e = .returned (.tuple #[.int .i64 (findP l n).1, .bool (findP l n).2]) ∧ Below w.heap.size w w' := by
  have hnew := blk_new w (.cells #[.int .i64 n] 3)
  have hbel := (Below.refl _ w).alloc (Nat.le_refl _) (.cells #[.int .i64 n] 3)
  have H := idx_calls l A c 63 #[.pointer (some ⟨w.heap.size, 0, none⟩)] (fun j => holds n (l.getD j z53)) (fun _ W => Below (w.alloc (.cells #[.int .i64 n] 3)).heap.size (w.alloc (.cells #[.int .i64 n] 3)) W) (fun _ W => Below (w.alloc (.cells #[.int .i64 n] 3)).heap.size (w.alloc (.cells #[.int .i64 n] 3)) W) (w.alloc (.cells #[.int .i64 n] 3))
    (enters_of Try.func63 (by kernel_rfl) rfl) (fun i W hW => Kd.C_below (Kd.C_below hl hbel) hW)
    (fun i W hi hW => (find1_calls (l.getD i z53) n w.heap.size W (blk_below hnew hW)).mono (fun e W' hh => ⟨hh.1, fun _ => hW.trans (hh.2.mono hW.size), fun _ => hW.trans (hh.2.mono hW.size)⟩)) (Below.refl _ _)
  have H' := Aside0.mk H
  have HL := Aside0.mk hl
  have HB := Aside0.mk hbel
  clear H hnew hbel hl
  go_enter Try.func38, Try.ntmps38
  go_wp2_with fail
  refine H'.out.mono ?_
  rintro e w1 (⟨i, hi, hp, hn, rfl, hx⟩ | ⟨hn, rfl, hx⟩)
  · have hB1 := below_step HB.out hx
    have HB1 := Aside0.mk hB1
    have hf := find_at (holds n) l i hi hp hn
    have HF := Aside0.mk hf
    clear hn hp hx hf hB1
    simp only [encI]
    have hb0 : decide ((i : Int) < 0) = false := decide_eq_false (by omega)
    have q1 := eq_true (show (i : Int) < (l.length : Int) by omega)
    have q2 := eq_true (show (0 : Int) ≤ (i : Int) by omega)
    go_wp2_with fail
    refine (valid_calls l A c w1 (Kd.C_below HL.out HB1.out)).mono ?_
    rintro e w2 ⟨rfl, h2⟩
    have hB2 := below_step HB1.out h2
    have HB2 := Aside0.mk hB2
    clear h2
    cases hv : validP l with
    | false =>
      have HV := Aside0.mk hv
      clear hv hB2
      go_wp2_with fail
      go_ret2
      exact ⟨by simp only [findP, HV.out]; rfl, HB2.out⟩
    | true =>
      have HV := Aside0.mk hv
      obtain ⟨ad, rfl, c0, c1, c2⟩ := at_T53 (Kd.C_below HL.out HB2.out) (i : Int) (by omega) (by omega)
      simp only [Int.toNat_natCast, rd_T53] at c0 c1 c2
      clear hv hB2 c0 c1
      go_wp2_with fail
      go_ret2
      exact ⟨by simp only [findP, HV.out, HF.out, List.getD_eq_getElem?_getD, List.getElem?_eq_getElem hi]; rfl, HB2.out⟩
  · have hB1 := below_step HB.out hx
    have HB1 := Aside0.mk hB1
    have hf := find_none (holds n) l hn
    have HF := Aside0.mk hf
    clear hn hx hf hB1
    simp only [encI]
    go_wp2_with fail
    go_ret2
    refine ⟨?_, HB1.out⟩
    simp only [findP, HF.out]
    split <;> rfl

set_option maxHeartbeats 2000000 in
theorem count_calls (l : List S53) (A : Option Addr) (c : Nat) (k : Int) (w : World) (hl : Kd.C k53 w A l.length l) :
    Calls Try.prog 30 #[.slice A l.length c, .int .i64 k] w fun e w' => e = .returned (.int .i64 (cntP l k)) ∧ Below w.heap.size w w' := by
  have HL := Aside0.mk hl
  clear hl
  cases hv : validP l with
  | false =>
    have e1 : cntP l k = 0 := by simp only [cntP, hv]; rfl
    rw [e1]
    clear e1
    go_enter Try.func30, Try.ntmps30
    go_wp2_with fail
    refine (valid_calls l A c _ HL.out).mono ?_
    rintro e w1 ⟨rfl, hb⟩
    have HB := Aside0.mk hb
    clear hb
    rw [hv]
    clear hv
    go_wp2_with fail
    go_ret
    exact ⟨rfl, HB.out⟩
  | true =>
    have hlen := validP_len hv
    have e1 : cntP l k = cnt k l := by simp only [cntP, hv]; rfl
    rw [e1]
    clear e1
    have HV := Aside0.mk hv
    have HLEN := Aside0.mk hlen
    go_enter Try.func30, Try.ntmps30
    go_wp2_with fail
    refine (valid_calls l A c _ HL.out).mono ?_
    rintro e w1 ⟨rfl, hb⟩
    have HB := Aside0.mk hb
    clear hb
    rw [hv]
    clear hv hlen
    go_wp2_with fail
    go_loopg [5, 13] l.length (fun kq v5 v wr => ∃ i : Nat, v = .int .i64 (i : Int) ∧ v5 = .int .i64 (cnt k (l.take i)) ∧ Aside0 (i + kq = l.length) ∧ Aside0 (Below w.heap.size w wr))
    case atStart => exact ⟨0, rfl, by simp [cnt], ⟨by omega⟩, HB⟩
    case round =>
      obtain ⟨i, rfl, rfl, HK, HBi⟩ := hrel
      by_cases hi : i < l.length
      · have hib : decide ((i : Int) < (l.length : Int)) = true := decide_eq_true (by omega)
        have q1 := eq_true (show (i : Int) < (l.length : Int) by omega)
        have q2 := eq_true (show (0 : Int) ≤ (i : Int) by omega)
        obtain ⟨ad, rfl, c0, c1, c2⟩ := at_T53 (Kd.C_below HL.out HBi.out) (i : Int) (by omega) (by omega)
        simp only [Int.toNat_natCast, rd_T53] at c0 c1 c2
        have b1 := cnt_bound k l HV.out i (by omega)
        have b2 := valid_at HV.out i hi
        have b3 := cnt_take k l i hi
        have hl40 : i ≤ 40 := by have := HLEN.out; omega
        simp only [List.getD_eq_getElem?_getD] at c0 c1 c2 b2 b3
        generalize (l[i]?.getD z53) = bb at c0 c1 c2 b2 b3
        obtain ⟨⟨xf, xt⟩, xc⟩ := bb
        dsimp only [bF, bT, bC] at c0 c1 c2 b2 b3
        have HI := Aside0.mk hi
        have B3 := Aside0.mk b3
        generalize cnt k (l.take i) = S at b1 b3 B3 ⊢
        obtain ⟨b1a, b1b⟩ := b1
        obtain ⟨b2a, b2b, b2c, b2d, b2e⟩ := b2
        clear b3 hi
        by_cases hk : xc = k
        · have hkb : (xc == k) = true := beq_iff_eq.mpr hk
          have B4 := Aside0.mk (B3.out.trans (by rw [if_pos hk]))
          clear hk
          go_wp2
          go_roundg (l.length - (i + 1))
          case measure => have := HK.out; have := HI.out; omega
          case rel => exact ⟨i + 1, by go_num, by rw [B4.out], ⟨by have := HK.out; have := HI.out; omega⟩, ⟨HBi.out.alloc HBi.out.size _⟩⟩
        · have hkb : (xc == k) = false := beq_eq_false_iff_ne.mpr hk
          have B4 := Aside0.mk (B3.out.trans (by rw [if_neg hk]))
          clear hk
          go_wp2
          go_roundg (l.length - (i + 1))
          case measure => have := HK.out; have := HI.out; omega
          case rel => exact ⟨i + 1, by go_num, by rw [B4.out]; simp, ⟨by have := HK.out; have := HI.out; omega⟩, ⟨HBi.out.alloc HBi.out.size _⟩⟩
      · have hge : (l.length : Int) ≤ (i : Int) := by omega
        have HI := Aside0.mk hi
        clear hi
        go_wp2
        go_ret
        exact ⟨by rw [show l.take i = l from List.take_of_length_le (by have := HI.out; omega)]; rfl, HBi.out⟩
end Go.Proofs.Ytdflgjgoikofaaa.Bk

namespace Go.Proofs.Ytdflgjgoikofaaa.Bk
open Go.RowKit Go.Shelf Go.Proofs.YtdflgjgoikofaaaW.PrintWords Go.Proofs.YtdflgjgoikofaaaW.PrintLast Go.Proofs.YtdflgjgoikofaaaW.PrintMore
open Go.Proofs.Ytdflgjgoikofaaa.Ref Go.Proofs.Ytdflgjgoikofaaa.Pl Go.Proofs.Ytdflgjgoikofaaa.Rg
attribute [local go_sem high] run_min_min run_max_max
attribute [local go_sem] Oper.semAt_some

theorem info26 : (Try.prog.info? 26).map (fun i => (i.zero, i.size, i.bytes)) = some (some (.agg #[(.int .i64 0), (.int .i64 0)]), 2, 16) := by kernel_rfl
def cells2 (b : S26) : List Value := [.int .i64 b.f0, .int .i64 b.f1]
def flat2 (l : List S26) : List Value := l.flatMap cells2
theorem flat2_nil : flat2 [] = [] := rfl
theorem flat2_cons (b : S26) (l : List S26) : flat2 (b :: l) = .int .i64 b.f0 :: .int .i64 b.f1 :: flat2 l := rfl
theorem flat2_len (l : List S26) : (flat2 l).length = l.length * 2 := by
  induction l with
  | nil => rfl
  | cons b l ih => rw [flat2_cons]; simp only [List.length_cons, ih]; omega
theorem flat2_append (l m : List S26) : flat2 (l ++ m) = flat2 l ++ flat2 m := by simp [flat2]
theorem flat2_snoc (l : List S26) (b : S26) : flat2 (l ++ [b]) = flat2 l ++ cells2 b := by rw [flat2_append]; simp [flat2]
theorem flat2_get (l : List S26) : ∀ (i : Nat), i < l.length → (flat2 l)[i * 2]? = some (.int .i64 (l.getD i z26).f0) ∧ (flat2 l)[i * 2 + 1]? = some (.int .i64 (l.getD i z26).f1) := by
  induction l with
  | nil => intro i h; simp at h
  | cons b l ih =>
    intro i h
    rw [flat2_cons]
    cases i with
    | zero => exact ⟨rfl, rfl⟩
    | succ i =>
      have := ih i (by simpa using h)
      rw [show (i + 1) * 2 = i * 2 + 1 + 1 by omega]
      simp only [List.getElem?_cons_succ, List.getD_cons_succ]
      exact this
theorem flat2_set (l : List S26) : ∀ (i : Nat) (t : Int), i < l.length → flat2 (l.set i ⟨(l.getD i z26).f0, t⟩) = (flat2 l).set (i * 2 + 1) (.int .i64 t) := by
  induction l with
  | nil => intro i t h; simp at h
  | cons b l ih =>
    intro i t h
    cases i with
    | zero => rfl
    | succ i =>
      have := ih i t (by simpa using h)
      rw [show (i + 1) * 2 + 1 = (i * 2 + 1) + 1 + 1 by omega]
      simp only [List.set_cons_succ, List.getD_cons_succ, flat2_cons]
      rw [this]
theorem flat2_one (l : List S26) : ∀ u ∈ flat2 l, u.oneCell' = true := by
  induction l with
  | nil => intro u h; simp [flat2] at h
  | cons b l ih =>
    intro u h
    rw [flat2_cons] at h
    simp only [List.mem_cons] at h
    rcases h with rfl | rfl | h
    · rfl
    · rfl
    · exact ih u h
theorem reps_flat2 (w : World) (base : Nat) (ok : Nat → Prop) (l : List S26) : Reps (k26.M w base ok) 2 l (flat2 l) := by
  induction l with
  | nil => exact Reps.none _ _
  | cons b l ih =>
    refine ⟨flat2_len _, fun j p hj => ?_⟩
    cases j with
    | zero =>
      simp only [List.getElem?_cons_zero, Option.some.injEq] at hj
      subst hj
      rw [flat2_cons]
      exact k26_mkM _ _ _ _
    | succ j =>
      have := ih.2 j p (by simpa using hj)
      rw [flat2_cons, show (j + 1) * 2 = j * 2 + 1 + 1 by omega]
      exact this
theorem R_of_flat2 {w : World} {base : Nat} {v : Value} {l : List S26} (h : w.ownsRow base 26 2 v l.length (flat2 l)) : Kd.R k26 26 w base (fun _ => True) v l :=
  ⟨fun _ _ => trivial, flat2 l, h, reps_flat2 _ _ _ _⟩
def lastR (l : List S26) : S26 := rd_T26 l ((l.length : Int) - 1)
theorem flat2_last (l : List S26) (h : 0 < l.length) : (flat2 l)[(l.length - 1) * 2]? = some (.int .i64 (lastR l).f0) ∧ (flat2 l)[(l.length - 1) * 2 + 1]? = some (.int .i64 (lastR l).f1) := by
  have e : lastR l = l.getD (l.length - 1) z26 := by unfold lastR rd_T26; rw [show ((l.length : Int) - 1).toNat = l.length - 1 by omega]
  rw [e]
  exact flat2_get l _ (by omega)
theorem flat2_set_last (l : List S26) (t : Int) (h : 0 < l.length) : flat2 (l.set (l.length - 1) ⟨(lastR l).f0, t⟩) = (flat2 l).set ((l.length - 1) * 2 + 1) (.int .i64 t) := by
  have e : lastR l = l.getD (l.length - 1) z26 := by unfold lastR rd_T26; rw [show ((l.length : Int) - 1).toNat = l.length - 1 by omega]
  rw [e]
  exact flat2_set l _ _ (by omega)

/-- An error code and ranges handed back. -/
def RangesRes (r : List S26 × Int) (w : World) (e : Ending) (w' : World) : Prop :=
  ∃ v : Value, e = .returned (.tuple #[v, .int .i64 r.2]) ∧ Kd.R k26 26 w' w.heap.size (fun _ => True) v r.1 ∧ Below w.heap.size w w'

def DiffI (w : World) (L pre : List Pc) (W : World) : Prop :=
  (∃ v n, W.heap[w.heap.size]? = some (.cells #[v] 47 (0, 0)) ∧ n = (diffL pre).length ∧ W.ownsRow (w.heap.size + 4) 26 2 v n (flat2 (diffL pre))) ∧ pre <+: L ∧ Below w.heap.size w W ∧ w.heap.size + 4 ≤ W.heap.size
theorem DiffI.turned {w : World} {L pre : List Pc} {A B : World} {B0 : Nat} (hA : DiffI w L pre A) (hB0 : w.heap.size ≤ B0) (hT : TurnedL (fun k => k = w.heap.size + 1 ∨ k = w.heap.size + 1 + 1) B0 A B) : DiffI w L pre B := by
  obtain ⟨⟨v, n, h3, hn, h4⟩, h5, h6, h7⟩ := hA
  refine ⟨⟨v, n, hT.cells h3 (by rintro (h | h) <;> omega), hn, own_move h4 (fun k hk => ?_)⟩, h5, ⟨hT.os.trans h6.os, hT.tape.trans h6.tape, hT.output.trans h6.output, Nat.le_trans h6.size hT.size, fun k hk => (hT.block k (by omega) (by rintro (h | h) <;> omega) (.inl (by omega))).trans (h6.block k hk)⟩, Nat.le_trans h7 hT.size⟩
  obtain ⟨cells, hc⟩ := own_typed h4 k hk
  have := own_base h4 k hk
  exact (hT.cells hc (by rintro (h | h) <;> omega)).trans hc.symm
theorem cells_new2 (W : World) (b : S26) : ∀ j u, (cells2 b)[j]? = some u → (W.alloc (.cells #[.int .i64 b.f0, .int .i64 b.f1] 26)).cell? ((⟨W.heap.size, 0, none⟩ : Addr).add j) = some u := by
  intro j u hj
  rw [add_plain, blk_cell (blk_new W _) j]
  rw [← hj]
  simp [cells2]
theorem diff_close {w W2 W' : World} {B0 : Nat} (hB0 : w.heap.size + 4 ≤ B0) {v : Value} {m : Nat} {xs : List Value} (hown : W2.ownsRow (w.heap.size + 4) 26 2 v m xs) (hos : W'.os = W2.os) (htape : W'.tape = W2.tape) (hout : W'.output = W2.output)
    (hsz : W2.heap.size ≤ W'.heap.size) (h7 : w.heap.size + 4 ≤ W2.heap.size) (hsame : ∀ k, k < W2.heap.size → k ≠ w.heap.size → some k ≠ v.ownBlock → W'.heap[k]? = W2.heap[k]?) :
    KeepsFrom B0 W2 W' ∧ Keeps (fun k => k < w.heap.size ∨ k = w.heap.size + 1 ∨ k = w.heap.size + 1 + 1 ∨ k = w.heap.size + 1 + 1 + 1) W2 W' ∧ (Below w.heap.size w W2 → Below w.heap.size w W') := by
  have hb : ∀ k, k < w.heap.size + 4 → some k ≠ v.ownBlock := fun k hk e => by have := own_base hown k e.symm; omega
  refine ⟨⟨hsz, fun k o hk ho hc => ?_⟩, ⟨hsz, fun k hk => ?_⟩, fun hB => ?_⟩
  · refine (hsame k (Array.getElem?_eq_some_iff.1 ho).1 (by omega) (fun e => ?_)).trans ho
    obtain ⟨cells, hcc⟩ := own_typed hown k e.symm
    rw [hcc] at ho; cases ho; cases hc
  · exact hsame k (by rcases hk with h | rfl | rfl | rfl <;> omega) (by rcases hk with h | rfl | rfl | rfl <;> omega) (hb k (by rcases hk with h | rfl | rfl | rfl <;> omega))
  · exact ⟨hos.trans hB.os, htape.trans hB.tape, hout.trans hB.output, Nat.le_trans hB.size hsz, fun k hk => (hsame k (by omega) (by omega) (hb k (by omega))).trans (hB.block k hk)⟩
theorem diff_append {w W2 w4 : World} {v : Value} {m : Nat} {xs : List Value} (hown : W2.ownsRow (w.heap.size + 4) 26 2 v m xs) (h7 : w.heap.size + 4 ≤ W2.heap.size) {q : Nat} {o : Obj} (hg : ((W2.drewN q).alloc o).grownBy w4 v.ownBlock) {u : Value}
    (h3 : W2.heap[w.heap.size]? = some (.cells #[v] 47 (0, 0))) :
    w4.heap[w.heap.size]? = some (.cells #[v] 47 (0, 0)) ∧ (∀ k, k < W2.heap.size → k ≠ w.heap.size → some k ≠ v.ownBlock → (w4.setCell ⟨w.heap.size, 0, none⟩ u).heap[k]? = W2.heap[k]?) ∧ W2.heap.size ≤ w4.heap.size := by
  have hs : ∀ k, k < W2.heap.size → some k ≠ v.ownBlock → w4.heap[k]? = W2.heap[k]? := fun k hk he => (hg.block k (by simp; omega) he).trans (Below.heap_alloc _ _ _ hk)
  have hsz : W2.heap.size ≤ w4.heap.size := by have := hg.size; simp at this; omega
  exact ⟨(hs _ (by omega) (fun e => by have := own_base hown _ e.symm; omega)).trans h3, fun k hk hn he => (Below.heap_setCell _ _ _ _ hn).trans (hs k hk he), hsz⟩
theorem diff_world (w : World) (va vb : Value) :
    ((((w.alloc (.cells #[.slice none 0 0] 47)).alloc (.cells #[va] 24)).alloc (.cells #[vb] 24)).alloc (.cells #[.func (.func 66) #[] #[]] 78)).heap.size = w.heap.size + 4 ∧
    Below w.heap.size w ((((w.alloc (.cells #[.slice none 0 0] 47)).alloc (.cells #[va] 24)).alloc (.cells #[vb] 24)).alloc (.cells #[.func (.func 66) #[] #[]] 78)) ∧
    ((((w.alloc (.cells #[.slice none 0 0] 47)).alloc (.cells #[va] 24)).alloc (.cells #[vb] 24)).alloc (.cells #[.func (.func 66) #[] #[]] 78)).heap[w.heap.size]? = some (.cells #[.slice none 0 0] 47 (0, 0)) ∧
    ((((w.alloc (.cells #[.slice none 0 0] 47)).alloc (.cells #[va] 24)).alloc (.cells #[vb] 24)).alloc (.cells #[.func (.func 66) #[] #[]] 78)).heap[w.heap.size + 1]? = some (.cells #[va] 24 (0, 0)) ∧
    ((((w.alloc (.cells #[.slice none 0 0] 47)).alloc (.cells #[va] 24)).alloc (.cells #[vb] 24)).alloc (.cells #[.func (.func 66) #[] #[]] 78)).heap[w.heap.size + 1 + 1]? = some (.cells #[vb] 24 (0, 0)) ∧
    ((((w.alloc (.cells #[.slice none 0 0] 47)).alloc (.cells #[va] 24)).alloc (.cells #[vb] 24)).alloc (.cells #[.func (.func 66) #[] #[]] 78)).heap[w.heap.size + 1 + 1 + 1]? = some (.cells #[.func (.func 66) #[] #[]] 78 (0, 0)) := by
  refine ⟨by simp, ((((Below.refl _ w).alloc (Nat.le_refl _) _).alloc (by simp) _).alloc (by simp; omega) _).alloc (by simp; omega) _, blk_alloc (blk_alloc (blk_alloc (blk_new w _) _) _) _, ?_, ?_, ?_⟩
  · have := blk_alloc (blk_alloc (blk_new (w.alloc (.cells #[.slice none 0 0] 47)) (.cells #[va] 24)) (.cells #[vb] 24)) (.cells #[.func (.func 66) #[] #[]] 78)
    rwa [World.size_alloc] at this
  · have := blk_alloc (blk_new ((w.alloc (.cells #[.slice none 0 0] 47)).alloc (.cells #[va] 24)) (.cells #[vb] 24)) (.cells #[.func (.func 66) #[] #[]] 78)
    rwa [World.size_alloc, World.size_alloc] at this
  · have := blk_new (((w.alloc (.cells #[.slice none 0 0] 47)).alloc (.cells #[va] 24)).alloc (.cells #[vb] 24)) (.cells #[.func (.func 66) #[] #[]] 78)
    rwa [World.size_alloc, World.size_alloc, World.size_alloc] at this

set_option maxHeartbeats 3000000 in
theorem differ_calls (a b : List S53) (A B : Option Addr) (ca cb : Nat) (w0 : World) (ha : Kd.C k53 w0 A a.length a) (hb : Kd.C k53 w0 B b.length b) (hca : a.length ≤ ca) (hcb : b.length ≤ cb) :
    Calls Try.prog 26 #[.slice A a.length ca, .slice B b.length cb] w0 (RangesRes (differP a b) w0) := by
  have HA := Aside0.mk ha
  have HB := Aside0.mk hb
  have HCA := Aside0.mk hca
  have HCB := Aside0.mk hcb
  clear ha hb hca hcb
  cases hv : validP a with
  | false =>
    have e1 : differP a b = ([], 130) := by simp only [differP, hv, Bool.false_and]; rfl
    rw [e1]
    clear e1
    refine (callsIn_wide (n := 3)).1 ?_
    refine callsIn_of_wp_marks Try.func26 rfl trivial ?_ rfl
    simp only [Try.ntmps26, List.size_toArray, List.length_cons, List.length_nil, Nat.reduceAdd, Nat.reduceSub, Array.replicate_succ, Array.replicate_zero, List.push_toArray, List.append_toArray, List.nil_append, List.cons_append]
    gi_wp2_with fail
    refine ⟨trivial, ?_⟩
    refine (callsIn_wide.2 (valid_calls a A ca _ HA.out)).mono ?_
    rintro e w1 ⟨rfl, h1⟩
    have H1 := Aside0.mk h1
    clear h1
    rw [hv]
    clear hv
    gi_wp2_with fail
    refine ⟨trivial, ?_⟩
    gi_wp2_with fail
    refine ⟨_, results_tmp2 rfl _ _ _, ?_⟩
    exact ⟨_, rfl, Kd.R_nil _ _ _ _ _, H1.out⟩
  | true =>
    have hla := validP_len hv
    cases hv2 : validP b with
    | false =>
      have e1 : differP a b = ([], 130) := by simp only [differP, hv2, Bool.and_false]; rfl
      rw [e1]
      clear e1
      refine (callsIn_wide (n := 3)).1 ?_
      refine callsIn_of_wp_marks Try.func26 rfl trivial ?_ rfl
      simp only [Try.ntmps26, List.size_toArray, List.length_cons, List.length_nil, Nat.reduceAdd, Nat.reduceSub, Array.replicate_succ, Array.replicate_zero, List.push_toArray, List.append_toArray, List.nil_append, List.cons_append]
      gi_wp2_with fail
      refine ⟨trivial, ?_⟩
      refine (callsIn_wide.2 (valid_calls a A ca _ HA.out)).mono ?_
      rintro e w1 ⟨rfl, h1⟩
      have H1 := Aside0.mk h1
      clear h1 hla
      rw [hv]
      clear hv
      gi_wp2_with fail
      refine ⟨trivial, ?_⟩
      refine (callsIn_wide.2 (valid_calls b B cb w1 (Kd.C_below HB.out H1.out))).mono ?_
      rintro e w2 ⟨rfl, h2⟩
      have H2 := Aside0.mk (below_step H1.out h2)
      clear h2
      rw [hv2]
      clear hv2
      gi_wp2_with fail
      refine ⟨_, results_tmp2 rfl _ _ _, ?_⟩
      exact ⟨_, rfl, Kd.R_nil _ _ _ _ _, H2.out⟩
    | true =>
      have hlb := validP_len hv2
      have e1 : differP a b = (diffL (pieces a b), 0) := by simp only [differP, hv, hv2, Bool.and_self, if_true]
      rw [e1]
      clear e1
      obtain ⟨hL, hlen⟩ := pieces_some a b
      replace hlen : (pieces a b).length ≤ 100000 := by omega
      generalize 2 * (a.length + b.length) + 2 = fuel at hL
      generalize pieces a b = L at hL hlen ⊢
      have HLS := Aside0.mk hL
      have HLEN := Aside0.mk hlen
      clear hla hlb hL hlen
      refine (callsIn_wide (n := 3)).1 ?_
      refine callsIn_of_wp_marks Try.func26 rfl trivial ?_ rfl
      simp only [Try.ntmps26, List.size_toArray, List.length_cons, List.length_nil, Nat.reduceAdd, Nat.reduceSub, Array.replicate_succ, Array.replicate_zero, List.push_toArray, List.append_toArray, List.nil_append, List.cons_append]
      gi_wp2_with fail
      refine ⟨trivial, ?_⟩
      refine (callsIn_wide.2 (valid_calls a A ca _ HA.out)).mono ?_
      rintro e w1 ⟨rfl, h1⟩
      have H1 := Aside0.mk h1
      clear h1
      rw [hv]
      clear hv
      gi_wp2_with fail
      refine ⟨trivial, ?_⟩
      refine (callsIn_wide.2 (valid_calls b B cb w1 (Kd.C_below HB.out H1.out))).mono ?_
      rintro e w ⟨rfl, h2⟩
      have H2 := Aside0.mk (below_step H1.out h2)
      clear h2
      rw [hv2]
      clear hv2
      gi_wp2_with fail
      refine ⟨trivial, ?_⟩
      refine (callsIn_wide.2 (pieces_calls A B a.length ca b.length cb _)).mono ?_
      rintro e w3 ⟨rfl, rfl⟩
      gi_wp2_with fail
      obtain ⟨hS, hB, b0, b2, b3, b4⟩ := diff_world w (.slice A a.length ca) (.slice B b.length cb)
      generalize ((((w.alloc (.cells #[.slice none 0 0] 47)).alloc (.cells #[.slice A a.length ca] 24)).alloc (.cells #[.slice B b.length cb] 24)).alloc (.cells #[.func (.func 66) #[] #[]] 78)) = W5 at hS hB b0 b2 b3 b4 ⊢
      have ha2 := Kd.C_below HA.out H2.out
      have hb2 := Kd.C_below HB.out H2.out
      refine wpIn_range (own := fun k => k = w.heap.size + 1 ∨ k = w.heap.size + 1 + 1) (kept := fun k => k < w.heap.size ∨ k = w.heap.size + 1 ∨ k = w.heap.size + 1 + 1 ∨ k = w.heap.size + 1 + 1 + 1)
        (Pre := (· <+: L)) (Fin := (· = L)) (encs := encP) rfl (by omega) (gf := 67) (lb := #[.pointer (some ⟨w.heap.size + 1 + 1 + 1, 0, none⟩), .pointer (some ⟨w.heap.size + 1, 0, none⟩), .pointer (some ⟨w.heap.size + 1 + 1, 0, none⟩)]) rfl trivial (enters_of Try.func67 (by kernel_rfl) rfl) L.length
        (by rintro k (rfl | rfl) <;> omega) (by rintro k (h | rfl | rfl | rfl) <;> omega) ?hseq (fun _ => rfl)
        (DiffI w L) (fun _ _ _ => False) (fun _ _ _ hA hT => hA.turned (by omega) hT) (fun _ _ _ _ h => h.elim) (fun pre W h => h.2.1.length_le) ⟨⟨_, _, b0, rfl, World.ownsRow_nil _ _ _ _⟩, List.nil_prefix, hB, by omega⟩ ?round ?done (fun _ _ _ _ _ _ h => h.elim)
      case hseq =>
        intro X hX
        have hk : ∀ k, k < w.heap.size + 4 → X.heap[k]? = W5.heap[k]? := fun k hk => hX.block k (by omega) (fun h => h.elim)
        exact pieces_seq 2 X (w.heap.size + 1 + 1 + 1) (w.heap.size + 1) (w.heap.size + 1 + 1) w.heap.size fuel a b L A B ca cb ((hk _ (by omega)).trans b2) ((hk _ (by omega)).trans b3) ((hk _ (by omega)).trans b4)
          (by omega) (by omega) (by omega) (by omega) (by omega) (by omega) HCA.out HCB.out (fun Y => ∀ k, k < w.heap.size → Y.heap[k]? = w.heap[k]?) (fun Y Z hY hZ k hk => (hZ k hk).trans (hY k hk))
          (fun k hk' => (hk k (by omega)).trans (hB.block k hk')) (fun Y hY => C_same ha2 hY) (fun Y hY => C_same hb2 hY) HLS.out
      case round =>
        intro l pre x W hl hr hI hpre
        simp only [encP]
        gi_wp2_with fail
        refine ⟨((KeepsOthers.alloc _ _).trans (KeepsOthers.alloc _ _)).from _, ((Keeps.refl _ W).alloc (by have := hI.2.2.2; rintro k (h | rfl | rfl | rfl) <;> omega) _).alloc (by have := hI.2.2.2; rintro k (h | rfl | rfl | rfl) <;> omega) _, ?_⟩
        intro W2 hT hsz
        have hWs := hI.2.2.2
        have rr : W2.heap[W.heap.size]? = some (.cells #[.int .i64 x.f, .int .i64 x.t] 26 (0, 0)) := hT.cells (blk_alloc (blk_new W _) _) (by rintro (h | h) <;> omega)
        have rc : W2.heap[W.heap.size + 1]? = some (.cells #[.int .i64 x.x, .int .i64 x.y] 35 (0, 0)) := by
          have := blk_new (W.alloc (.cells #[.int .i64 x.f, .int .i64 x.t] 26)) (.cells #[.int .i64 x.x, .int .i64 x.y] 35)
          rw [World.size_alloc] at this
          exact hT.cells this (by rintro (h | h) <;> omega)
        have hI2 : DiffI w L pre W2 := (hI.turned (B0 := W5.heap.size) (by omega) (TurnedL.of (((Turned.refl _ W).alloc (.cells #[.int .i64 x.f, .int .i64 x.t] 26)).alloc (.cells #[.int .i64 x.x, .int .i64 x.y] 35)))).turned (by omega) hT
        have hpre' := Aside0.mk hpre
        have hHS := Aside0.mk hS
        clear hI hT hsz hr hpre hB b0 b2 b3 b4 hl hS ha2 hb2
        obtain ⟨⟨v, m, h3, hm, h4⟩, h5, h6, h7⟩ := hI2
        have kr0 : W2.cell? ⟨W.heap.size, 0, none⟩ = some _ := (blk_cell rr 0).trans rfl
        have kr1 : W2.cell? ⟨W.heap.size, 1, none⟩ = some _ := (blk_cell rr 1).trans rfl
        have kc0 : W2.cell? ⟨W.heap.size + 1, 0, none⟩ = some _ := (blk_cell rc 0).trans rfl
        have kc1 : W2.cell? ⟨W.heap.size + 1, 1, none⟩ = some _ := (blk_cell rc 1).trans rfl
        have kO : W2.cell? ⟨w.heap.size, 0, none⟩ = some _ := (blk_cell h3 0).trans rfl
        have kOf := blk_frozen h3 0
        have H3 := Aside0.mk h3
        have HM := Aside0.mk hm
        have H4 := Aside0.mk h4
        have H6 := Aside0.mk h6
        have hsn := diffL_snoc pre x
        unfold stepD at hsn
        have HSN := Aside0.mk hsn
        clear h3 hm h4 h5 h6 rr rc hsn
        obtain ⟨i0, hi, hz0, hz1, hz2⟩ := info_parts info26
        by_cases hk : x.x = x.y
        · have hkb : (x.x == x.y) = true := beq_iff_eq.mpr hk
          have HK := Aside0.mk hk
          clear hk
          gi_wp2_with fail
          have e1 : diffL (pre ++ [x]) = diffL pre := by rw [HSN.out, if_pos HK.out]
          exact ⟨⟨Nat.le_refl _, fun _ _ _ h _ => h⟩, ⟨Nat.le_refl _, fun _ _ => rfl⟩, ⟨v, m, H3.out, by rw [e1]; exact HM.out, by rw [e1]; exact H4.out⟩, hpre'.out, H6.out, h7⟩
        · have hkb : (x.x == x.y) = false := beq_eq_false_iff_ne.mpr hk
          have HK := Aside0.mk hk
          clear hk
          obtain ⟨Av, cv, rfl⟩ := own_slice H4.out
          cases m with
          | zero =>
            have hd1 : decide ((0 : Int) < 0) = false := rfl
            have ho0 : diffL pre = [] := List.eq_nil_of_length_eq_zero HM.out.symm
            have e1 : diffL (pre ++ [x]) = diffL pre ++ [⟨x.f, x.t⟩] := by rw [HSN.out, if_neg HK.out, ho0]; rfl
            have E1 := Aside0.mk e1
            clear e1 ho0
            gi_wp2_with (fail)
            refine wpIn_region_quietR (by kernel_rfl) (by kernel_rfl) (by kernel_rfl) ?_
            repeat (gi_big_quiet_step (fail))
            refine wpQuietIn_nil ?_
            intro _ hw'
            obtain ⟨nq, rfl⟩ := hw'
            gi_wp2_with (gi_at_builtin; refine wpListIn_append_own _ rfl _ _ 47 rfl (w.heap.size + 4) 26 i0 (.agg #[.int .i64 0, .int .i64 0]) 2 16 Try.underlying47 hi hz0 hz1 hz2 rfl (by decide) _ 0 (flat2 (diffL pre)) rfl (World.ownsRow.alloc (w := W2.drewN _) H4.out _) ⟨W2.heap.size, 0, none⟩ 1 1 (cells2 ⟨x.f, x.t⟩) rfl rfl (cells_new2 (W2.drewN _) ⟨x.f, x.t⟩) (by simp [cells2, Value.oneCell']) (by simp [maxLen]) (by omega) (by simp; omega) ?_; intro v' w4 hown' hgrow _; obtain ⟨g', cap', rfl⟩ := ownsRow_succ hown'; have hcl := diff_append H4.out h7 hgrow (u := .slice (some ⟨g', 0, none⟩) (0 + 1) cap') H3.out; have kO4 : w4.cell? ⟨w.heap.size, 0, none⟩ = some _ := (blk_cell hcl.1 0).trans rfl; have kOf4 := blk_frozen hcl.1 0; have HOWN := Aside0.mk hown'; have HGR := Aside0.mk hgrow; have HCL := Aside0.mk hcl; clear hown' hgrow hcl)
            obtain ⟨k1, k2, k4⟩ := diff_close (W' := w4.setCell ⟨w.heap.size, 0, none⟩ (.slice (some ⟨g', 0, none⟩) (0 + 1) cap')) (B0 := W5.heap.size) (by have := hHS.out; omega) H4.out HGR.out.os HGR.out.tape HGR.out.output (by simpa [World.setCell] using HCL.out.2.2) h7 HCL.out.2.1
            refine ⟨k1, k2, ⟨_, _, blk_put HCL.out.1 0 _ rfl, by rw [E1.out, List.length_append, ← HM.out], ?_⟩, hpre'.out, k4 H6.out, Nat.le_trans h7 k1.size⟩
            rw [E1.out, flat2_snoc]
            exact HOWN.out.kept (grownBy_setCell' w4 _ _) (.inr (fun e => by have := own_base HOWN.out _ e; omega))
          | succ m =>
            obtain ⟨g2, c2, hvv⟩ := ownsRow_succ H4.out
            cases hvv
            have hlast := flat2_last (diffL pre) (by have := HM.out; omega)
            rw [show (diffL pre).length - 1 = m by have := HM.out; omega] at hlast
            have c0 := (H4.out.cellAt (m * 2) (by omega)).trans hlast.1
            have c1 := (H4.out.cellAt (m * 2 + 1) (by omega)).trans hlast.2
            have f1 := H4.out.frozenAt (m * 2 + 1)
            have hd1 : decide ((0 : Int) < (m : Int) + 1) = true := decide_eq_true (by omega)
            have hml : m + 1 ≤ 100000 := by have := HM.out; have := diffL_len pre; have := hpre'.out.length_le; simp at this; have := HLEN.out; omega
            have q1 := eq_true (show (m : Int) < (m : Int) + 1 by omega)
            have q2 := eq_true (show (0 : Int) ≤ (m : Int) by omega)
            have ho : decide (0 < (diffL pre).length) = true := decide_eq_true (by have := HM.out; omega)
            clear hlast
            by_cases hT : (lastR (diffL pre)).f1 = x.f
            · have hTb : ((lastR (diffL pre)).f1 == x.f) = true := beq_iff_eq.mpr hT
              have e1 : diffL (pre ++ [x]) = (diffL pre).set ((diffL pre).length - 1) ⟨(lastR (diffL pre)).f0, x.t⟩ := by
                rw [HSN.out, if_neg HK.out]
                show (if decide (0 < (diffL pre).length) && ((lastR (diffL pre)).f1 == x.f) then _ else _) = _
                rw [if_pos (by rw [ho, hTb]; rfl)]
                rfl
              have E1 := Aside0.mk e1
              clear hT e1 ho
              gi_wp2_with (fail)
              refine wpIn_region_quietR (by kernel_rfl) (by kernel_rfl) (by kernel_rfl) ?_
              repeat (gi_big_quiet_step (fail))
              refine wpQuietIn_nil ?_
              intro _ hw'
              obtain ⟨nq, rfl⟩ := hw'
              gi_wp2_with (fail)
              obtain ⟨k1, k2, k4⟩ := diff_close (W' := (W2.drewN nq).setCell ⟨g2, m * 2 + 1, none⟩ (.int .i64 x.t)) (B0 := W5.heap.size) (by have := hHS.out; omega) H4.out rfl rfl rfl (by simp [World.setCell]) h7 (fun k hk hn he => Below.heap_setCell _ _ _ _ (fun e => he (by rw [e]; rfl)))
              refine ⟨k1, k2, ⟨_, m + 1, blk_far (blk_drewN H3.out _) (fun e => by have := own_base H4.out g2 rfl; have e' : w.heap.size = g2 := e; omega) _, by rw [E1.out, List.length_set]; exact HM.out, ?_⟩, hpre'.out, k4 H6.out, Nat.le_trans h7 k1.size⟩
              rw [E1.out, flat2_set_last _ _ (by have := HM.out; omega), show (diffL pre).length - 1 = m by have := HM.out; omega]
              exact (World.ownsRow.stored (w := W2.drewN nq) H4.out (m * 2 + 1) _).1
            · have hTb : ((lastR (diffL pre)).f1 == x.f) = false := beq_eq_false_iff_ne.mpr hT
              have e1 : diffL (pre ++ [x]) = diffL pre ++ [⟨x.f, x.t⟩] := by
                rw [HSN.out, if_neg HK.out]
                show (if decide (0 < (diffL pre).length) && ((lastR (diffL pre)).f1 == x.f) then _ else _) = _
                rw [if_neg (by rw [hTb, Bool.and_false]; decide)]
              have E1 := Aside0.mk e1
              clear hT e1 ho
              gi_wp2_with (fail)
              refine wpIn_region_quietR (by kernel_rfl) (by kernel_rfl) (by kernel_rfl) ?_
              repeat (gi_big_quiet_step (fail))
              refine wpQuietIn_nil ?_
              intro _ hw'
              obtain ⟨nq, rfl⟩ := hw'
              gi_wp2_with (gi_at_builtin; refine wpListIn_append_own _ rfl _ _ 47 rfl (w.heap.size + 4) 26 i0 (.agg #[.int .i64 0, .int .i64 0]) 2 16 Try.underlying47 hi hz0 hz1 hz2 rfl (by decide) _ (m + 1) (flat2 (diffL pre)) rfl (World.ownsRow.alloc (w := W2.drewN _) H4.out _) ⟨W2.heap.size, 0, none⟩ 1 1 (cells2 ⟨x.f, x.t⟩) rfl rfl (cells_new2 (W2.drewN _) ⟨x.f, x.t⟩) (by simp [cells2, Value.oneCell']) (by unfold maxLen; omega) (by omega) (by simp; omega) ?_; intro v' w4 hown' hgrow _; obtain ⟨g', cap', rfl⟩ := ownsRow_succ hown'; have hcl := diff_append H4.out h7 hgrow (u := .slice (some ⟨g', 0, none⟩) (m + 1 + 1) cap') H3.out; have kO4 : w4.cell? ⟨w.heap.size, 0, none⟩ = some _ := (blk_cell hcl.1 0).trans rfl; have kOf4 := blk_frozen hcl.1 0; have HOWN := Aside0.mk hown'; have HGR := Aside0.mk hgrow; have HCL := Aside0.mk hcl; clear hown' hgrow hcl)
              obtain ⟨k1, k2, k4⟩ := diff_close (W' := w4.setCell ⟨w.heap.size, 0, none⟩ (.slice (some ⟨g', 0, none⟩) (m + 1 + 1) cap')) (B0 := W5.heap.size) (by have := hHS.out; omega) H4.out HGR.out.os HGR.out.tape HGR.out.output (by simpa [World.setCell] using HCL.out.2.2) h7 HCL.out.2.1
              refine ⟨k1, k2, ⟨_, _, blk_put HCL.out.1 0 _ rfl, by rw [E1.out, List.length_append, ← HM.out], ?_⟩, hpre'.out, k4 H6.out, Nat.le_trans h7 k1.size⟩
              rw [E1.out, flat2_snoc]
              exact HOWN.out.kept (grownBy_setCell' w4 _ _) (.inr (fun e => by have := own_base HOWN.out _ e; omega))
      case done =>
        rintro D xs W hD rfl ⟨⟨v, n, h3, hn, h4⟩, h5, h6, h7⟩ hK
        have kO : W.cell? ⟨w.heap.size, 0, none⟩ = some _ := (blk_cell h3 0).trans rfl
        obtain ⟨Av, c, rfl⟩ := own_slice h4
        have hbel : Below w.heap.size w (W.putObj D (.deferred none)) := ⟨h6.os, h6.tape, h6.output, by simpa using h6.size, fun k hk => (World.putObj_heap_other (by omega)).trans (h6.block k hk)⟩
        have hR : Kd.R k26 26 (W.putObj D (.deferred none)) w.heap.size (fun _ => True) (.slice Av n c) (diffL xs) := by
          refine R_of_flat2 (own_weaken ?_ (by omega : w.heap.size ≤ w.heap.size + 4))
          rw [← hn]
          exact ownsRow_putObj h4 _ hK rfl
        have HR := Aside0.mk (Kd.R_lower hR H2.out.size)
        have HBl := Aside0.mk (H2.out.trans (hbel.mono H2.out.size))
        clear hR hbel h3 hn h4 h6 h5 hB b0 b2 b3 b4 ha2 hb2
        gi_wp2_with fail
        refine ⟨by simp, .inl ⟨_, _, rfl, run_takeDeferred hK, ?_⟩⟩
        refine ⟨_, results_tmp2 rfl _ _ _, ?_⟩
        exact ⟨.slice Av n c, rfl, HR.out, HBl.out⟩
end Go.Proofs.Ytdflgjgoikofaaa.Bk

namespace Go.Proofs.Ytdflgjgoikofaaa.Bk
open Go.RowKit Go.Shelf Go.Proofs.YtdflgjgoikofaaaW.PrintWords Go.Proofs.YtdflgjgoikofaaaW.PrintLast Go.Proofs.YtdflgjgoikofaaaW.PrintMore
open Go.Proofs.Ytdflgjgoikofaaa.Ref Go.Proofs.Ytdflgjgoikofaaa.Pl Go.Proofs.Ytdflgjgoikofaaa.Rg
attribute [local go_sem high] run_min_min run_max_max
attribute [local go_sem] Oper.semAt_some

theorem free_skip (n : Int) (p : Pc) (L : List Pc) (h : ¬ (p.x = -1 ∧ n < p.t)) : freeL n (p :: L) = freeL n L := by simp only [freeL, if_neg h]
theorem free_hit (n : Int) (p : Pc) (L : List Pc) (h : p.x = -1 ∧ n < p.t) : freeL n (p :: L) = (max n p.f, true) := by simp only [freeL, if_pos h]

/-- Between two rounds: the three boxes; the result, if the loop has been left. -/
def FreeI (S S1 : Nat) (w0 : World) (n : Int) (L pre : List Pc) (W : World) : Prop :=
  W.heap[S]? = some (.cells #[.int .i64 n] 3 (0, 0)) ∧ W.heap[S + 1]? = some (.cells #[.int .i64 0] 3 (0, 0)) ∧ W.heap[S + 1 + 1]? = some (.cells #[.bool false] 4 (0, 0)) ∧
  (∃ rest, L = pre ++ rest ∧ freeL n L = freeL n rest) ∧ Below S w0 W ∧ S1 + 3 ≤ W.heap.size
def FreeX (S : Nat) (w0 : World) (n : Int) (L : List Pc) (W : World) : Prop :=
  W.heap[S + 1]? = some (.cells #[.int .i64 (freeL n L).1] 3 (0, 0)) ∧ W.heap[S + 1 + 1]? = some (.cells #[.bool (freeL n L).2] 4 (0, 0)) ∧ Below S w0 W ∧ S + 3 ≤ W.heap.size
theorem FreeI.turned {S S1 : Nat} {w0 : World} {n : Int} {L pre : List Pc} {A B : World} {B0 : Nat} (h : FreeI S S1 w0 n L pre A) (hS : S + 3 ≤ S1) (hB0 : S1 ≤ B0) (hT : TurnedL (fun k => k = S1 ∨ k = S1 + 1) B0 A B) : FreeI S S1 w0 n L pre B := by
  obtain ⟨h1, h2, h3, h4, h5, h6⟩ := h
  exact ⟨hT.cells h1 (by rintro (h | h) <;> omega), hT.cells h2 (by rintro (h | h) <;> omega), hT.cells h3 (by rintro (h | h) <;> omega), h4,
    ⟨hT.os.trans h5.os, hT.tape.trans h5.tape, hT.output.trans h5.output, Nat.le_trans h5.size hT.size, fun k hk => (hT.block k (by omega) (by rintro (h | h) <;> omega) (.inl (by omega))).trans (h5.block k hk)⟩, Nat.le_trans h6 hT.size⟩
theorem FreeX.turned {S S1 : Nat} {w0 : World} {n : Int} {L : List Pc} {A B : World} {B0 : Nat} (h : FreeX S w0 n L A) (hS : S + 3 ≤ S1) (hB0 : S1 ≤ B0) (hT : TurnedL (fun k => k = S1 ∨ k = S1 + 1) B0 A B) : FreeX S w0 n L B := by
  obtain ⟨h2, h3, h5, h6⟩ := h
  exact ⟨hT.cells h2 (by rintro (h | h) <;> omega), hT.cells h3 (by rintro (h | h) <;> omega),
    ⟨hT.os.trans h5.os, hT.tape.trans h5.tape, hT.output.trans h5.output, Nat.le_trans h5.size hT.size, fun k hk => (hT.block k (by omega) (by rintro (h | h) <;> omega) (.inl (by omega))).trans (h5.block k hk)⟩, Nat.le_trans h6 hT.size⟩

theorem free_world (w : World) (n : Int) :
    (((w.alloc (.cells #[.int .i64 n] 3)).alloc (.cells #[.int .i64 0] 3)).alloc (.cells #[.bool false] 4)).heap.size = w.heap.size + 3 ∧ Below w.heap.size w (((w.alloc (.cells #[.int .i64 n] 3)).alloc (.cells #[.int .i64 0] 3)).alloc (.cells #[.bool false] 4)) ∧
    (((w.alloc (.cells #[.int .i64 n] 3)).alloc (.cells #[.int .i64 0] 3)).alloc (.cells #[.bool false] 4)).heap[w.heap.size]? = some (.cells #[.int .i64 n] 3 (0, 0)) ∧
    (((w.alloc (.cells #[.int .i64 n] 3)).alloc (.cells #[.int .i64 0] 3)).alloc (.cells #[.bool false] 4)).heap[w.heap.size + 1]? = some (.cells #[.int .i64 0] 3 (0, 0)) ∧
    (((w.alloc (.cells #[.int .i64 n] 3)).alloc (.cells #[.int .i64 0] 3)).alloc (.cells #[.bool false] 4)).heap[w.heap.size + 1 + 1]? = some (.cells #[.bool false] 4 (0, 0)) := by
  refine ⟨by simp, (((Below.refl _ w).alloc (Nat.le_refl _) _).alloc (by simp) _).alloc (by simp; omega) _, blk_alloc (blk_alloc (blk_new w _) _) _, ?_, ?_⟩
  · have := blk_alloc (blk_new (w.alloc (.cells #[.int .i64 n] 3)) (.cells #[.int .i64 0] 3)) (.cells #[.bool false] 4)
    rwa [World.size_alloc] at this
  · have := blk_new ((w.alloc (.cells #[.int .i64 n] 3)).alloc (.cells #[.int .i64 0] 3)) (.cells #[.bool false] 4)
    rwa [World.size_alloc, World.size_alloc] at this
theorem pieces_world (w : World) (va vb : Value) :
    (((w.alloc (.cells #[va] 24)).alloc (.cells #[vb] 24)).alloc (.cells #[.func (.func 66) #[] #[]] 78)).heap.size = w.heap.size + 3 ∧
    Below w.heap.size w (((w.alloc (.cells #[va] 24)).alloc (.cells #[vb] 24)).alloc (.cells #[.func (.func 66) #[] #[]] 78)) ∧
    (((w.alloc (.cells #[va] 24)).alloc (.cells #[vb] 24)).alloc (.cells #[.func (.func 66) #[] #[]] 78)).heap[w.heap.size]? = some (.cells #[va] 24 (0, 0)) ∧
    (((w.alloc (.cells #[va] 24)).alloc (.cells #[vb] 24)).alloc (.cells #[.func (.func 66) #[] #[]] 78)).heap[w.heap.size + 1]? = some (.cells #[vb] 24 (0, 0)) ∧
    (((w.alloc (.cells #[va] 24)).alloc (.cells #[vb] 24)).alloc (.cells #[.func (.func 66) #[] #[]] 78)).heap[w.heap.size + 2]? = some (.cells #[.func (.func 66) #[] #[]] 78 (0, 0)) := by
  refine ⟨by simp, (((Below.refl _ w).alloc (Nat.le_refl _) _).alloc (by simp) _).alloc (by simp; omega) _, blk_alloc (blk_alloc (blk_new w _) _) _, ?_, ?_⟩
  · have := blk_alloc (blk_new (w.alloc (.cells #[va] 24)) (.cells #[vb] 24)) (.cells #[.func (.func 66) #[] #[]] 78)
    rwa [World.size_alloc] at this
  · have := blk_new ((w.alloc (.cells #[va] 24)).alloc (.cells #[vb] 24)) (.cells #[.func (.func 66) #[] #[]] 78)
    rwa [World.size_alloc, World.size_alloc] at this

theorem free_results (tmps : Array Value) (W : World) (g1 g2 : Nat) (k : Int) (b : Bool) (h4 : tmps.getD 4 undef = .pointer (some ⟨g1, 0, none⟩)) (h5 : tmps.getD 5 undef = .pointer (some ⟨g2, 0, none⟩))
    (hp : W.cell? ⟨g1, 0, none⟩ = some (.int .i64 k)) (hq : W.cell? ⟨g2, 0, none⟩ = some (.bool b)) : (results Try.f32 tmps).run Try.prog W = .ok (.tuple #[.int .i64 k, .bool b]) W := by
  have hr : Try.f32.results = #[.cell 4 3, .cell 5 4] := rfl
  simp only [Array.getD_eq_getD_getElem?] at h4 h5
  simp [results, hr, go_sem, h4, h5, hp, hq]

set_option maxHeartbeats 3000000 in
theorem free_calls (l : List S53) (A : Option Addr) (c : Nat) (n : Int) (w : World) (hl : Kd.C k53 w A l.length l) (hc : l.length ≤ c) :
    Calls Try.prog 32 #[.slice A l.length c, .int .i64 n] w fun e w' => e = .returned (.tuple #[.int .i64 (freeP l n).1, .bool (freeP l n).2]) ∧ Below w.heap.size w w' := by
  have HL := Aside0.mk hl
  have HC := Aside0.mk hc
  clear hl hc
  obtain ⟨hS, hB, h0, h1, h2⟩ := free_world w n
  refine (callsIn_wide (n := 3)).1 ?_
  refine callsIn_of_wp_marks Try.func32 rfl trivial ?_ rfl
  simp only [Try.ntmps32, List.size_toArray, List.length_cons, List.length_nil, Nat.reduceAdd, Nat.reduceSub, Array.replicate_succ, Array.replicate_zero, List.push_toArray, List.append_toArray, List.nil_append, List.cons_append]
  gi_wp2_with fail
  refine ⟨trivial, ?_⟩
  generalize (((w.alloc (.cells #[.int .i64 n] 3)).alloc (.cells #[.int .i64 0] 3)).alloc (.cells #[.bool false] 4)) = w1 at hS hB h0 h1 h2 ⊢
  refine (callsIn_wide.2 (valid_calls l A c _ (Kd.C_below HL.out hB))).mono ?_
  rintro e w2 ⟨rfl, hb⟩
  have HB := Aside0.mk (below_step hB hb)
  have hs2 : w.heap.size + 3 ≤ w2.heap.size := by have := hb.size; omega
  have H0 := Aside0.mk (blk_below h0 hb)
  have H1 := Aside0.mk (blk_below h1 hb)
  have H2 := Aside0.mk (blk_below h2 hb)
  have k0 : w2.cell? ⟨w.heap.size, 0, none⟩ = some (.int .i64 n) := (blk_cell H0.out 0).trans rfl
  have k1 : w2.cell? ⟨w.heap.size + 1, 0, none⟩ = some (.int .i64 0) := (blk_cell H1.out 0).trans rfl
  have k2 : w2.cell? ⟨w.heap.size + 1 + 1, 0, none⟩ = some (.bool false) := (blk_cell H2.out 0).trans rfl
  have f1 := blk_frozen H1.out 0
  have f2 := blk_frozen H2.out 0
  clear hS hB h0 h1 h2 hb
  cases hv : validP l with
  | false =>
    have e1 : freeP l n = (0, false) := by simp only [freeP, hv]; rfl
    have E1 := Aside0.mk e1
    clear e1 hv
    gi_wp2_with fail
    refine ⟨_, free_results _ _ _ _ 0 false rfl rfl ((blk_cell (blk_far (blk_put H1.out 0 (.int .i64 0) rfl) (p := ⟨w.heap.size + 1 + 1, 0, none⟩) (by simp) _) 0).trans rfl) ((blk_cell (blk_put (blk_far H2.out (p := ⟨w.heap.size + 1, 0, none⟩) (by simp) (.int .i64 0)) 0 (.bool false) rfl) 0).trans rfl), by rw [E1.out], ?_⟩
    exact (HB.out.setCell (p := ⟨w.heap.size + 1, 0, none⟩) (by simp) _).setCell (p := ⟨w.heap.size + 1 + 1, 0, none⟩) (by simp; omega) _
  | true =>
    have hla := validP_len hv
    by_cases hn0 : n < 0
    · have hb0 : decide (n < 0) = true := decide_eq_true hn0
      have e1 : freeP l n = (0, false) := by simp only [freeP]; rw [if_neg (by omega)]
      have E1 := Aside0.mk e1
      clear e1 hv hn0
      gi_wp2_with fail
      refine ⟨_, free_results _ _ _ _ 0 false rfl rfl ((blk_cell (blk_far (blk_put H1.out 0 (.int .i64 0) rfl) (p := ⟨w.heap.size + 1 + 1, 0, none⟩) (by simp) _) 0).trans rfl) ((blk_cell (blk_put (blk_far H2.out (p := ⟨w.heap.size + 1, 0, none⟩) (by simp) (.int .i64 0)) 0 (.bool false) rfl) 0).trans rfl), by rw [E1.out], ?_⟩
      exact (HB.out.setCell (p := ⟨w.heap.size + 1, 0, none⟩) (by simp) _).setCell (p := ⟨w.heap.size + 1 + 1, 0, none⟩) (by simp; omega) _
    · have hb0 : decide (n < 0) = false := decide_eq_false hn0
      by_cases hn1 : 99999999 < n
      · have hb1 : decide (99999999 < n) = true := decide_eq_true hn1
        have e1 : freeP l n = (0, false) := by simp only [freeP]; rw [if_neg (by omega)]
        have E1 := Aside0.mk e1
        clear e1 hv hn0 hn1
        gi_wp2_with fail
        refine ⟨_, free_results _ _ _ _ 0 false rfl rfl ((blk_cell (blk_far (blk_put H1.out 0 (.int .i64 0) rfl) (p := ⟨w.heap.size + 1 + 1, 0, none⟩) (by simp) _) 0).trans rfl) ((blk_cell (blk_put (blk_far H2.out (p := ⟨w.heap.size + 1, 0, none⟩) (by simp) (.int .i64 0)) 0 (.bool false) rfl) 0).trans rfl), by rw [E1.out], ?_⟩
        exact (HB.out.setCell (p := ⟨w.heap.size + 1, 0, none⟩) (by simp) _).setCell (p := ⟨w.heap.size + 1 + 1, 0, none⟩) (by simp; omega) _
      · have hb1 : decide (99999999 < n) = false := decide_eq_false hn1
        have e1 : freeP l n = freeL n (pieces l []) := by simp only [freeP]; rw [if_pos ⟨hv, by omega, by omega⟩]
        obtain ⟨hL, hlen⟩ := pieces_some l []
        replace hlen : (pieces l []).length ≤ 100000 := by simp at hlen; omega
        generalize 2 * (l.length + ([] : List S53).length) + 2 = fuel at hL
        generalize pieces l [] = L at hL hlen e1
        have HLS := Aside0.mk hL
        have E1 := Aside0.mk e1
        clear hL hlen e1 hla hv hn0 hn1
        gi_wp2_with fail
        refine ⟨trivial, ?_⟩
        refine (callsIn_wide.2 (pieces_calls A none l.length c 0 0 _)).mono ?_
        rintro e w3 ⟨rfl, rfl⟩
        gi_wp2_with fail
        obtain ⟨hS, hB5, b2, b3, b4⟩ := pieces_world w2 (.slice A l.length c) (.slice none 0 0)
        have hBelow := below_step HB.out hB5
        generalize (((w2.alloc (.cells #[.slice A l.length c] 24)).alloc (.cells #[.slice none 0 0] 24)).alloc (.cells #[.func (.func 66) #[] #[]] 78)) = W5 at hS hB5 b2 b3 b4 hBelow ⊢
        have hI0 : FreeI w.heap.size w2.heap.size w n L [] W5 := ⟨blk_below H0.out hB5, blk_below H1.out hB5, blk_below H2.out hB5, ⟨L, rfl, rfl⟩, hBelow, by omega⟩
        clear k0 k1 k2 f1 f2 hb0 hb1
        refine wpIn_range (own := fun k => k = w2.heap.size ∨ k = w2.heap.size + 1) (kept := fun k => k < w.heap.size ∨ k = w2.heap.size ∨ k = w2.heap.size + 1 ∨ k = w2.heap.size + 2)
          (Pre := (· <+: L)) (Fin := (· = L)) (encs := encP) rfl (by omega) (gf := 67) (lb := #[.pointer (some ⟨w2.heap.size + 2, 0, none⟩), .pointer (some ⟨w2.heap.size, 0, none⟩), .pointer (some ⟨w2.heap.size + 1, 0, none⟩)]) rfl trivial (enters_of Try.func67 (by kernel_rfl) rfl) L.length
          (by rintro k (rfl | rfl) <;> omega) (by rintro k (h | rfl | rfl | rfl) <;> omega) ?hseq (fun _ => rfl)
          (FreeI w.heap.size w2.heap.size w n L) (fun c _ W => c = .ret ∧ FreeX w.heap.size w n L W) (fun _ _ _ hA hT => hA.turned hs2 (by omega) hT) (fun _ _ _ _ h hT => ⟨h.1, h.2.turned hs2 (by omega) hT⟩)
          (fun pre W h => by obtain ⟨rest, e, _⟩ := h.2.2.2.1; rw [e]; simp) hI0 ?round ?done ?stop
        case hseq =>
          intro X hX
          have hk : ∀ k, k < w2.heap.size + 3 → X.heap[k]? = W5.heap[k]? := fun k hk => hX.block k (by omega) (fun h => h.elim)
          exact pieces_seq 2 X (w2.heap.size + 2) w2.heap.size (w2.heap.size + 1) w.heap.size fuel l [] L A none c 0 ((hk _ (by omega)).trans b2) ((hk _ (by omega)).trans b3) ((hk _ (by omega)).trans b4)
            (by omega) (by omega) (by omega) (by omega) (by omega) (by omega) HC.out (by simp) (fun Y => ∀ k, k < w.heap.size → Y.heap[k]? = w.heap[k]?) (fun Y Z hY hZ k hk => (hZ k hk).trans (hY k hk))
            (fun k hk' => (hk k (by omega)).trans (hBelow.block k hk')) (fun Y hY => C_same HL.out hY) (fun Y hY => Kd.C_nil _ _) HLS.out
        case round =>
          intro l' pre x W hl hr hI hpre
          simp only [encP]
          gi_wp2_with fail
          have hWs := hI.2.2.2.2.2
          refine ⟨((KeepsOthers.alloc _ _).trans (KeepsOthers.alloc _ _)).from _, ((Keeps.refl _ W).alloc (by rintro k (h | rfl | rfl | rfl) <;> omega) _).alloc (by rintro k (h | rfl | rfl | rfl) <;> omega) _, ?_⟩
          intro W2 hT hsz
          have rr : W2.heap[W.heap.size]? = some (.cells #[.int .i64 x.f, .int .i64 x.t] 26 (0, 0)) := hT.cells (blk_alloc (blk_new W _) _) (by rintro (h | h) <;> omega)
          have rc : W2.heap[W.heap.size + 1]? = some (.cells #[.int .i64 x.x, .int .i64 x.y] 35 (0, 0)) := by
            have := blk_new (W.alloc (.cells #[.int .i64 x.f, .int .i64 x.t] 26)) (.cells #[.int .i64 x.x, .int .i64 x.y] 35)
            rw [World.size_alloc] at this
            exact hT.cells this (by rintro (h | h) <;> omega)
          have hI2 : FreeI w.heap.size w2.heap.size w n L pre W2 := (hI.turned hs2 (B0 := W5.heap.size) (by omega) (TurnedL.of (((Turned.refl _ W).alloc (.cells #[.int .i64 x.f, .int .i64 x.t] 26)).alloc (.cells #[.int .i64 x.x, .int .i64 x.y] 35)))).turned hs2 (by omega) hT
          have hHS := Aside0.mk hS
          have hHs2 := Aside0.mk hs2
          clear hI hT hsz hr hB5 b2 b3 b4 hl hS hI0 hBelow hs2 hWs
          obtain ⟨g0, g1, g2, ⟨rest, hrest, hfree⟩, h6, h7⟩ := hI2
          obtain ⟨rest', hr2⟩ := hpre
          have hre : rest = x :: rest' := by
            rw [hrest, List.append_assoc, List.singleton_append] at hr2
            exact (List.append_cancel_left hr2).symm
          rw [hre] at hrest hfree
          have HR := Aside0.mk hrest
          have HFr := Aside0.mk hfree
          have G0 := Aside0.mk g0
          have G1 := Aside0.mk g1
          have G2 := Aside0.mk g2
          have H6 := Aside0.mk h6
          have kr0 : W2.cell? ⟨W.heap.size, 0, none⟩ = some _ := (blk_cell rr 0).trans rfl
          have kr1 : W2.cell? ⟨W.heap.size, 1, none⟩ = some _ := (blk_cell rr 1).trans rfl
          have kc0 : W2.cell? ⟨W.heap.size + 1, 0, none⟩ = some _ := (blk_cell rc 0).trans rfl
          have k0 : W2.cell? ⟨w.heap.size, 0, none⟩ = some (.int .i64 n) := (blk_cell g0 0).trans rfl
          have k1 : W2.cell? ⟨w.heap.size + 1, 0, none⟩ = some (.int .i64 0) := (blk_cell g1 0).trans rfl
          have k2 : W2.cell? ⟨w.heap.size + 1 + 1, 0, none⟩ = some (.bool false) := (blk_cell g2 0).trans rfl
          have f1 := blk_frozen g1 0
          have f2 := blk_frozen g2 0
          clear hrest hfree hre hr2 g0 g1 g2 h6 rr rc
          by_cases hx : x.x = -1
          · have hxb : (x.x == -1) = true := beq_iff_eq.mpr hx
            by_cases ht : n < x.t
            · have htb : decide (n < x.t) = true := decide_eq_true ht
              have e2 := HFr.out.trans (free_hit n x rest' ⟨hx, ht⟩)
              have E2 := Aside0.mk e2
              clear e2 hx ht
              gi_wp2_with fail
              have hst := ((Turned.refl (fun k => k = w.heap.size + 1 ∨ k = w.heap.size + 1 + 1) W2).setCell (p := ⟨w.heap.size + 1, 0, none⟩) (.inl (.inl rfl)) (.int .i64 (max n x.f))).setCell (p := ⟨w.heap.size + 1 + 1, 0, none⟩) (.inl (.inr rfl)) (.bool true)
              refine ⟨((KeepsOthers.setCell _ _ _).trans (KeepsOthers.setCell _ _ _)).from _, rfl, ?_, ?_, ⟨hst.os.trans H6.out.os, hst.tape.trans H6.out.tape, hst.output.trans H6.out.output, Nat.le_trans H6.out.size hst.size, fun k hk => (hst.block k (by have := H6.out.size; omega) (by omega)).trans (H6.out.block k hk)⟩, by have := hHs2.out; have := hst.size; omega⟩
              · rw [E2.out]
                exact blk_far (blk_put G1.out 0 _ rfl) (p := ⟨w.heap.size + 1 + 1, 0, none⟩) (by simp) _
              · rw [E2.out]
                exact blk_put (blk_far G2.out (p := ⟨w.heap.size + 1, 0, none⟩) (by simp) _) 0 _ rfl
            · have htb : decide (n < x.t) = false := decide_eq_false ht
              have e2 := HFr.out.trans (free_skip n x rest' (fun h => ht h.2))
              have E2 := Aside0.mk e2
              clear e2 hx ht
              gi_wp2_with fail
              exact ⟨⟨Nat.le_refl _, fun _ _ _ h _ => h⟩, ⟨Nat.le_refl _, fun _ _ => rfl⟩, G0.out, G1.out, G2.out, ⟨rest', by rw [HR.out]; simp, E2.out⟩, H6.out, h7⟩
          · have hxb : (x.x == -1) = false := beq_eq_false_iff_ne.mpr hx
            have e2 := HFr.out.trans (free_skip n x rest' (fun h => hx h.1))
            have E2 := Aside0.mk e2
            clear e2 hx
            gi_wp2_with fail
            exact ⟨⟨Nat.le_refl _, fun _ _ _ h _ => h⟩, ⟨Nat.le_refl _, fun _ _ => rfl⟩, G0.out, G1.out, G2.out, ⟨rest', by rw [HR.out]; simp, E2.out⟩, H6.out, h7⟩
        case done =>
          rintro D xs W hD rfl ⟨g0, g1, g2, ⟨rest, hrest, hfree⟩, h6, h7⟩ hK
          have hre : rest = [] := by
            have := congrArg List.length hrest
            simp at this
            exact this
          rw [hre] at hfree
          have e2 := E1.out.trans hfree
          have E2 := Aside0.mk e2
          have G1 := Aside0.mk g1
          have G2 := Aside0.mk g2
          have H6 := Aside0.mk h6
          have k1 : W.cell? ⟨w.heap.size + 1, 0, none⟩ = some (.int .i64 0) := (blk_cell g1 0).trans rfl
          have k2 : W.cell? ⟨w.heap.size + 1 + 1, 0, none⟩ = some (.bool false) := (blk_cell g2 0).trans rfl
          have f1 := blk_frozen g1 0
          have f2 := blk_frozen g2 0
          clear e2 hrest hfree hre g0 g1 g2 h6 hI0 hBelow hB5 b2 b3 b4
          gi_wp2_with fail
          have hK' : ((W.setCell ⟨w.heap.size + 1, 0, none⟩ (.int .i64 0)).setCell ⟨w.heap.size + 1 + 1, 0, none⟩ (.bool false)).heap[D]? = some (.deferred (some [])) := (Below.heap_setCell _ _ _ _ (by show D ≠ w.heap.size + 1 + 1; omega)).trans ((Below.heap_setCell _ _ _ _ (by show D ≠ w.heap.size + 1; omega)).trans hK)
          refine ⟨by simp, .inl ⟨_, _, rfl, run_takeDeferred hK', ?_⟩⟩
          have x1 := blk_far (blk_put G1.out 0 (.int .i64 0) rfl) (p := ⟨w.heap.size + 1 + 1, 0, none⟩) (by simp) (.bool false)
          have x2 := blk_put (blk_far G2.out (p := ⟨w.heap.size + 1, 0, none⟩) (by simp) (.int .i64 0)) 0 (.bool false) rfl
          refine ⟨_, free_results _ _ _ _ 0 false rfl rfl ((blk_cell ((World.putObj_heap_other (by omega)).trans x1) 0).trans rfl) ((blk_cell ((World.putObj_heap_other (by omega)).trans x2) 0).trans rfl), by rw [E2.out]; rfl, ?_⟩
          have hst := ((Turned.refl (fun k => k = w.heap.size + 1 ∨ k = w.heap.size + 1 + 1) W).setCell (p := ⟨w.heap.size + 1, 0, none⟩) (.inl (.inl rfl)) (.int .i64 0)).setCell (p := ⟨w.heap.size + 1 + 1, 0, none⟩) (.inl (.inr rfl)) (.bool false)
          exact ⟨hst.os.trans H6.out.os, hst.tape.trans H6.out.tape, hst.output.trans H6.out.output, by have := hst.size; have := H6.out.size; simp at *; omega, fun k hk => (World.putObj_heap_other (by omega)).trans ((hst.block k (by have := H6.out.size; omega) (by omega)).trans (H6.out.block k hk))⟩
        case stop =>
          rintro D c pre W hD hpre ⟨rfl, x1, x2, h6, h7⟩ hK
          have X1 := Aside0.mk x1
          have X2 := Aside0.mk x2
          have H6 := Aside0.mk h6
          clear x1 x2 h6 hI0 hBelow hB5 b2 b3 b4
          gi_wp2_with fail
          refine ⟨by simp, .inl ⟨_, _, rfl, run_takeDeferred hK, ?_⟩⟩
          refine ⟨_, free_results _ _ _ _ (freeL n L).1 (freeL n L).2 rfl rfl ((blk_cell ((World.putObj_heap_other (by omega)).trans X1.out) 0).trans rfl) ((blk_cell ((World.putObj_heap_other (by omega)).trans X2.out) 0).trans rfl), by rw [E1.out], ?_⟩
          exact ⟨H6.out.os, H6.out.tape, H6.out.output, by simpa using H6.out.size, fun k hk => (World.putObj_heap_other (by omega)).trans (H6.out.block k hk)⟩
end Go.Proofs.Ytdflgjgoikofaaa.Bk
