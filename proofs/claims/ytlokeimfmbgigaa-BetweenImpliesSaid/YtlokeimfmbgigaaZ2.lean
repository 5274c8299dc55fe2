/- What the small functions of package between return. -/
import Derived.Test.YtlokeimfmbgigaaR1
import Derived.Test.YtlokeimfmbgigaaZ1
import Derived.Test.YtlokeimfmbgigaaR3
import Derived.Shelf.Abstract
import Derived.IntWalk
import Derived.Deep.QuietTactic
import Derived.BigQuiet
import Derived.Below
set_option linter.unusedVariables false
set_option linter.unusedSimpArgs false
namespace Go.Proofs.Ytlokeimfmbgigaa.Bk
open Go.RowKit Go.Proofs.YtlokeimfmbgigaaW.PrintWords Go.Proofs.YtlokeimfmbgigaaW.PrintLast Go.Proofs.YtlokeimfmbgigaaW.PrintMore
open Go.Proofs.Ytlokeimfmbgigaa.Ref Go.Proofs.Ytlokeimfmbgigaa.Pl

def aggB (b : S35) : Value := .agg #[.int .i64 b.f0, .int .i64 b.f1, .int .i64 b.f2]
/-- The first index at which p says true, or none; J, Jx: what is known of the world then. -/
def IdxPost (n : Nat) (p : Nat → Bool) (J Jx : Nat → World → Prop) (enc : Option Nat → Value) (e : Ending) (w' : World) : Prop :=
  (∃ i, i < n ∧ p i = true ∧ (∀ j, j < i → p j = false) ∧ e = .returned (enc (some i)) ∧ Jx i w') ∨ ((∀ j, j < n → p j = false) ∧ e = .returned (enc none) ∧ J n w')
def encI : Option Nat → Value
  | some i => .int .i64 (i : Int)
  | none => .int .i64 (-1)
def encO (o : Option Nat) : Value := .bool o.isSome

set_option maxHeartbeats 1000000 in
theorem idx_calls (l : List S35) (A : Option Addr) (c g : Nat) (lb : Array Value) (p : Nat → Bool) (J Jx : Nat → World → Prop) (w : World)
    (eg : ∀ args w, (callFunc g args).run Try.prog w = .ok (.enter g args) w) (hC : ∀ i W, J i W → Kd.C k35 W A l.length l)
    (hcall : ∀ i W, i < l.length → J i W → Calls Try.prog g (#[aggB (l.getD i z35)] ++ lb) W fun e W' => e = .returned (.bool (p i)) ∧ (p i = false → J (i + 1) W') ∧ (p i = true → Jx i W')) (h0 : J 0 w) :
    Calls Try.prog 62 #[.slice A l.length c, .func (.func g) #[] lb] w (IdxPost l.length p J Jx encI) := by
  have hm := (hC 0 w h0).2.1
  have HC := Aside0.mk hC
  have HF := Aside0.mk hcall
  have H0 := Aside0.mk h0
  clear hC hcall h0
  go_enter Try.func62, Try.ntmps62
  go_wp2
  go_loopg [8] l.length (fun kq v wr => ∃ i : Nat, v = .int .i64 (i : Int) ∧ Aside0 (i + kq = l.length) ∧ Aside0 (∀ j, j < i → p j = false) ∧ Aside0 (J i wr))
  case atStart => exact ⟨0, rfl, ⟨by omega⟩, ⟨fun j hj => by omega⟩, H0⟩
  case round =>
    obtain ⟨i, rfl, HK, HP, HJ⟩ := hrel
    by_cases hi : i < l.length
    · have hib : decide ((i : Int) < (l.length : Int)) = true := decide_eq_true (by omega)
      have q1 := eq_true (show (i : Int) < (l.length : Int) by omega)
      have q2 := eq_true (show (0 : Int) ≤ (i : Int) by omega)
      obtain ⟨ad, rfl, c0, c1, c2⟩ := at_T35 (HC.out _ _ HJ.out) (i : Int) (by omega) (by omega)
      simp only [Int.toNat_natCast, rd_T35] at c0 c1 c2
      have HI := Aside0.mk hi
      clear hi
      go_wp2_with fail
      have hF := HF.out i wr HI.out HJ.out
      simp only [List.getD_eq_getElem?_getD] at hF
      refine hF.mono ?_
      clear hF
      rintro e w1 ⟨rfl, hj0, hj1⟩
      cases hp : p i with
      | false =>
        have hj := hj0 hp
        have HJ1 := Aside0.mk hj
        have HPi := Aside0.mk hp
        clear hj0 hj1 hj hp
        have hlt := HI.out
        have hk1 : i + 1 ≤ 9223372036854775807 := by omega
        clear hlt
        go_wp2
        go_roundg (l.length - (i + 1))
        case measure => have := HK.out; have := HI.out; omega
        case rel => exact ⟨i + 1, by go_num, ⟨by have := HK.out; have := HI.out; omega⟩, ⟨fun j hj => by rcases Nat.lt_or_ge j i with h | h; exact HP.out j h; rw [show j = i by omega]; exact HPi.out⟩, HJ1⟩
      | true =>
        have hj := hj1 hp
        have HJ1 := Aside0.mk hj
        have HPi := Aside0.mk hp
        clear hj0 hj1 hj hp
        go_wp2
        go_ret
        exact .inl ⟨i, HI.out, HPi.out, HP.out, rfl, HJ1.out⟩
    · have hib : decide ((i : Int) < (l.length : Int)) = false := decide_eq_false (by omega)
      have hge : (l.length : Int) ≤ (i : Int) := by omega
      have HI := Aside0.mk hi
      clear hi
      go_wp2
      go_ret
      exact .inr ⟨fun j hj => HP.out j (by have := HI.out; omega), rfl, by have h := HJ.out; rw [show i = l.length by have := HK.out; have := HI.out; omega] at h; exact h⟩

theorem contains_calls (l : List S35) (A : Option Addr) (c g : Nat) (lb : Array Value) (p : Nat → Bool) (J Jx : Nat → World → Prop) (w : World)
    (eg : ∀ args w, (callFunc g args).run Try.prog w = .ok (.enter g args) w) (hC : ∀ i W, J i W → Kd.C k35 W A l.length l)
    (hcall : ∀ i W, i < l.length → J i W → Calls Try.prog g (#[aggB (l.getD i z35)] ++ lb) W fun e W' => e = .returned (.bool (p i)) ∧ (p i = false → J (i + 1) W') ∧ (p i = true → Jx i W')) (h0 : J 0 w) :
    Calls Try.prog 46 #[.slice A l.length c, .func (.func g) #[] lb] w (IdxPost l.length p J Jx encO) := by
  have H := Aside0.mk (idx_calls l A c g lb p J Jx w eg hC hcall h0)
  clear hC hcall h0
  go_enter Try.func46, Try.ntmps46
  go_wp2_with fail
  refine H.out.mono ?_
  rintro e w1 (⟨i, hi, hp, hn, rfl, hx⟩ | ⟨hn, rfl, hx⟩)
  · have HN := Aside0.mk hn
    have HX := Aside0.mk hx
    have HP := Aside0.mk hp
    clear hn hx hp
    simp only [encI]
    have hb : decide ((0 : Int) ≤ (i : Int)) = true := decide_eq_true (by omega)
    go_wp2
    go_ret
    exact .inl ⟨i, hi, HP.out, HN.out, rfl, HX.out⟩
  · have HN := Aside0.mk hn
    have HX := Aside0.mk hx
    clear hn hx
    simp only [encI]
    go_wp2
    go_ret
    exact .inr ⟨HN.out, rfl, HX.out⟩

/-! ### over numbers -/
set_option maxHeartbeats 1000000 in
theorem idxI_calls (l : List Int) (A : Option Addr) (c g : Nat) (lb : Array Value) (p : Nat → Bool) (J Jx : Nat → World → Prop) (w : World)
    (eg : ∀ args w, (callFunc g args).run Try.prog w = .ok (.enter g args) w) (hC : ∀ i W, J i W → Kd.C (Kd.int .i64) W A l.length l)
    (hcall : ∀ i W, i < l.length → J i W → Calls Try.prog g (#[Value.int .i64 (l.getD i 0)] ++ lb) W fun e W' => e = .returned (.bool (p i)) ∧ (p i = false → J (i + 1) W') ∧ (p i = true → Jx i W')) (h0 : J 0 w) :
    Calls Try.prog 64 #[.slice A l.length c, .func (.func g) #[] lb] w (IdxPost l.length p J Jx encI) := by
  have hm := (hC 0 w h0).2.1
  have HC := Aside0.mk hC
  have HF := Aside0.mk hcall
  have H0 := Aside0.mk h0
  clear hC hcall h0
  go_enter Try.func64, Try.ntmps64
  go_wp2
  go_loopg [8] l.length (fun kq v wr => ∃ i : Nat, v = .int .i64 (i : Int) ∧ Aside0 (i + kq = l.length) ∧ Aside0 (∀ j, j < i → p j = false) ∧ Aside0 (J i wr))
  case atStart => exact ⟨0, rfl, ⟨by omega⟩, ⟨fun j hj => by omega⟩, H0⟩
  case round =>
    obtain ⟨i, rfl, HK, HP, HJ⟩ := hrel
    by_cases hi : i < l.length
    · have hib : decide ((i : Int) < (l.length : Int)) = true := decide_eq_true (by omega)
      have q1 := eq_true (show (i : Int) < (l.length : Int) by omega)
      have q2 := eq_true (show (0 : Int) ≤ (i : Int) by omega)
      obtain ⟨ad, rfl, c0⟩ := Kd.at_int (HC.out _ _ HJ.out) (i : Int) (by omega) (by omega)
      simp only [Int.toNat_natCast, rd] at c0
      have HI := Aside0.mk hi
      clear hi
      go_wp2_with fail
      have hF := HF.out i wr HI.out HJ.out
      simp only [List.getD_eq_getElem?_getD] at hF
      refine hF.mono ?_
      clear hF
      rintro e w1 ⟨rfl, hj0, hj1⟩
      cases hp : p i with
      | false =>
        have hj := hj0 hp
        have HJ1 := Aside0.mk hj
        have HPi := Aside0.mk hp
        clear hj0 hj1 hj hp
        have hlt := HI.out
        have hk1 : i + 1 ≤ 9223372036854775807 := by omega
        clear hlt
        go_wp2
        go_roundg (l.length - (i + 1))
        case measure => have := HK.out; have := HI.out; omega
        case rel => exact ⟨i + 1, by go_num, ⟨by have := HK.out; have := HI.out; omega⟩, ⟨fun j hj => by rcases Nat.lt_or_ge j i with h | h; exact HP.out j h; rw [show j = i by omega]; exact HPi.out⟩, HJ1⟩
      | true =>
        have hj := hj1 hp
        have HJ1 := Aside0.mk hj
        have HPi := Aside0.mk hp
        clear hj0 hj1 hj hp
        go_wp2
        go_ret
        exact .inl ⟨i, HI.out, HPi.out, HP.out, rfl, HJ1.out⟩
    · have hib : decide ((i : Int) < (l.length : Int)) = false := decide_eq_false (by omega)
      have hge : (l.length : Int) ≤ (i : Int) := by omega
      have HI := Aside0.mk hi
      clear hi
      go_wp2
      go_ret
      exact .inr ⟨fun j hj => HP.out j (by have := HI.out; omega), rfl, by have h := HJ.out; rw [show i = l.length by have := HK.out; have := HI.out; omega] at h; exact h⟩

theorem containsI_calls (l : List Int) (A : Option Addr) (c g : Nat) (lb : Array Value) (p : Nat → Bool) (J Jx : Nat → World → Prop) (w : World)
    (eg : ∀ args w, (callFunc g args).run Try.prog w = .ok (.enter g args) w) (hC : ∀ i W, J i W → Kd.C (Kd.int .i64) W A l.length l)
    (hcall : ∀ i W, i < l.length → J i W → Calls Try.prog g (#[Value.int .i64 (l.getD i 0)] ++ lb) W fun e W' => e = .returned (.bool (p i)) ∧ (p i = false → J (i + 1) W') ∧ (p i = true → Jx i W')) (h0 : J 0 w) :
    Calls Try.prog 45 #[.slice A l.length c, .func (.func g) #[] lb] w (IdxPost l.length p J Jx encO) := by
  have H := Aside0.mk (idxI_calls l A c g lb p J Jx w eg hC hcall h0)
  clear hC hcall h0
  go_enter Try.func45, Try.ntmps45
  go_wp2_with fail
  refine H.out.mono ?_
  rintro e w1 (⟨i, hi, hp, hn, rfl, hx⟩ | ⟨hn, rfl, hx⟩)
  · have HN := Aside0.mk hn
    have HX := Aside0.mk hx
    have HP := Aside0.mk hp
    clear hn hx hp
    simp only [encI]
    have hb : decide ((0 : Int) ≤ (i : Int)) = true := decide_eq_true (by omega)
    go_wp2
    go_ret
    exact .inl ⟨i, hi, HP.out, HN.out, rfl, HX.out⟩
  · have HN := Aside0.mk hn
    have HX := Aside0.mk hx
    clear hn hx
    simp only [encI]
    go_wp2
    go_ret
    exact .inr ⟨HN.out, rfl, HX.out⟩
end Go.Proofs.Ytlokeimfmbgigaa.Bk

set_option linter.unusedVariables false
namespace Go.Proofs.Ytlokeimfmbgigaa.Pl
open Go.RowKit Go.Proofs.YtlokeimfmbgigaaW.PrintWords Go.Proofs.YtlokeimfmbgigaaW.PrintLast Go.Proofs.YtlokeimfmbgigaaW.PrintMore
open Go.Proofs.Ytlokeimfmbgigaa.Ref

/-- Is x a bound for n variables? -/
def boundB (n : Int) (x : S35) : Bool := decide (0 ≤ x.f0 ∧ x.f0 ≤ n - 1) && decide (0 ≤ x.f1 ∧ x.f1 ≤ n - 1) && decide (-1000000000 ≤ x.f2 ∧ x.f2 ≤ 1000000000)
/-- Are these valid bounds? -/
def validB (n : Int) (l : List S35) : Bool := decide (0 ≤ n ∧ n ≤ 16) && decide (l.length ≤ 60) && l.all (boundB n)
theorem isIn_f (n low high : Int) : between_isIn.f n low high = some (decide (low ≤ n ∧ n ≤ high)) := by
  unfold between_isIn.f
  by_cases h : low ≤ n
  · rw [if_pos h]; simp [h]
  · rw [if_neg h]; simp [h]
theorem wrap_pred {n : Int} (h : 0 ≤ n ∧ n ≤ 16) : wrap64 (n - 1) = n - 1 := by unfold wrap64; omega
theorem isBound_f (n : Int) (h : 0 ≤ n ∧ n ≤ 16) (x : S35) : between_isBound.f n x.f0 x.f1 x.f2 = some (boundB n x) := by
  unfold between_isBound.f boundB
  rw [wrap_pred h, isIn_f, isIn_f, isIn_f]
  by_cases h1 : 0 ≤ x.f0 ∧ x.f0 ≤ n - 1 <;> by_cases h2 : 0 ≤ x.f1 ∧ x.f1 ≤ n - 1 <;> simp [h1, h2]
end Go.Proofs.Ytlokeimfmbgigaa.Pl

set_option linter.unusedVariables false
namespace Go.Proofs.Ytlokeimfmbgigaa.Bk
open Go.RowKit Go.Shelf Go.Proofs.YtlokeimfmbgigaaW.PrintWords Go.Proofs.YtlokeimfmbgigaaW.PrintLast Go.Proofs.YtlokeimfmbgigaaW.PrintMore
open Go.Proofs.Ytlokeimfmbgigaa.Ref Go.Proofs.Ytlokeimfmbgigaa.Pl

theorem isIn_calls (n low high : Int) (w : World) : Calls Try.prog 44 #[.int .i64 n, .int .i64 low, .int .i64 high] w fun e w' => e = .returned (.bool (decide (low ≤ n ∧ n ≤ high))) ∧ Below w.heap.size w w' :=
  (between_isIn.calls n low high _ w (isIn_f n low high)).mono fun e w' h => ⟨h.1, h.2.below⟩
theorem isBound_calls (n : Int) (h : 0 ≤ n ∧ n ≤ 16) (x : S35) (w : World) : Calls Try.prog 39 #[.int .i64 n, .agg #[.int .i64 x.f0, .int .i64 x.f1, .int .i64 x.f2]] w fun e w' => e = .returned (.bool (boundB n x)) ∧ Below w.heap.size w w' :=
  between_isBound.calls n x.f0 x.f1 x.f2 _ w (isBound_f n h x)
/-- The closure of Valid. -/
theorem valid1_calls (x : S35) (n : Int) (hn : 0 ≤ n ∧ n ≤ 16) (N : Nat) (s : Value) (w : World) (hN : w.heap[N]? = some (.cells #[.int .i64 n, s] 30 (0, 0))) :
    Calls Try.prog 53 #[aggB x, .pointer (some ⟨N, 0, none⟩)] w fun e w' => e = .returned (.bool (!boundB n x)) ∧ Below w.heap.size w w' := by
  have k0 : (w.alloc (.cells #[.int .i64 x.f0, .int .i64 x.f1, .int .i64 x.f2] 35)).cell? ⟨N, 0, none⟩ = some (.int .i64 n) := (blk_cell (blk_alloc hN _) 0).trans rfl
  have hal := (Below.refl _ w).alloc (Nat.le_refl _) (.cells #[.int .i64 x.f0, .int .i64 x.f1, .int .i64 x.f2] 35)
  have HAL := Aside0.mk hal
  have HNN := Aside0.mk hn
  clear hN hal hn
  unfold aggB
  go_enter Try.func53, Try.ntmps53
  go_wp2_with fail
  refine (isBound_calls n HNN.out x _).mono ?_
  rintro e w1 ⟨rfl, h1⟩
  have H1 := Aside0.mk (below_step HAL.out h1)
  clear h1
  generalize hb : boundB n x = b
  have HBB := Aside0.mk hb
  clear hb
  go_wp2_with fail
  go_ret
  exact ⟨by rw [HBB.out]; rfl, H1.out⟩
theorem all_false {n : Int} {l : List S35} {i : Nat} (hi : i < l.length) (h : boundB n (l.getD i z35) = false) : l.all (boundB n) = false := by
  rw [← Bool.not_eq_true]
  intro ha
  rw [List.all_eq_true] at ha
  have := ha (l.getD i z35) (by rw [List.getD_eq_getElem?_getD, List.getElem?_eq_getElem hi]; exact List.getElem_mem hi)
  rw [h] at this
  exact absurd this (by decide)
theorem all_true {n : Int} {l : List S35} (h : ∀ j, j < l.length → boundB n (l.getD j z35) = true) : l.all (boundB n) = true := by
  rw [List.all_eq_true]
  intro x hx
  obtain ⟨j, hj, rfl⟩ := List.getElem_of_mem hx
  have := h j hj
  rwa [List.getD_eq_getElem?_getD, List.getElem?_eq_getElem hj] at this
set_option maxHeartbeats 2000000 in
theorem valid_calls (n : Int) (l : List S35) (A : Option Addr) (c : Nat) (w : World) (hl : Kd.C k35 w A l.length l) :
    Calls Try.prog 27 #[.agg #[.int .i64 n, .slice A l.length c]] w fun e w' => e = .returned (.bool (validB n l)) ∧ Below w.heap.size w w' := by
  have hnew := blk_new w (.cells #[.int .i64 n, .slice A l.length c] 30)
  have hbel := (Below.refl _ w).alloc (Nat.le_refl _) (.cells #[.int .i64 n, .slice A l.length c] 30)
  by_cases hn : 0 ≤ n ∧ n ≤ 16
  · have hnb : decide (0 ≤ n ∧ n ≤ 16) = true := decide_eq_true hn
    by_cases h60 : l.length ≤ 60
    · have hb : decide ((l.length : Int) ≤ 60) = true := decide_eq_true (by omega)
      have hH : ∀ W0, Below (w.alloc (.cells #[.int .i64 n, .slice A l.length c] 30)).heap.size (w.alloc (.cells #[.int .i64 n, .slice A l.length c] 30)) W0 →
          Calls Try.prog 46 #[.slice A l.length c, .func (.func 53) #[] #[.pointer (some ⟨w.heap.size, 0, none⟩)]] W0 (IdxPost l.length (fun j => !boundB n (l.getD j z35)) (fun _ W => Below W0.heap.size W0 W) (fun _ W => Below W0.heap.size W0 W) encO) := fun W0 h0 =>
        contains_calls l A c 53 #[.pointer (some ⟨w.heap.size, 0, none⟩)] (fun j => !boundB n (l.getD j z35)) (fun _ W => Below W0.heap.size W0 W) (fun _ W => Below W0.heap.size W0 W) W0
          (enters_of Try.func53 (by kernel_rfl) rfl) (fun i W hW => Kd.C_below (Kd.C_below (Kd.C_below hl hbel) h0) hW)
          (fun i W hi hW => (valid1_calls (l.getD i z35) n hn w.heap.size _ W (blk_below (blk_below hnew h0) hW)).mono (fun e W' hh => ⟨hh.1, fun _ => below_step hW hh.2, fun _ => below_step hW hh.2⟩)) (Below.refl _ _)
      have H := Aside0.mk hH
      have HN := Aside0.mk hnew
      have HB := Aside0.mk hbel
      have H60 := Aside0.mk h60
      have k0 : (w.alloc (.cells #[.int .i64 n, .slice A l.length c] 30)).cell? ⟨w.heap.size, 0, none⟩ = some (.int .i64 n) := (blk_cell hnew 0).trans rfl
      clear hH hnew hbel hl h60 hn
      go_enter Try.func27, Try.ntmps27
      go_wp2_with fail
      refine (isIn_calls n 0 16 _).mono ?_
      rintro e w1 ⟨rfl, h1⟩
      rw [hnb]
      have k1 : w1.cell? ⟨w.heap.size, 1, none⟩ = some (.slice A l.length c) := (blk_cell (blk_below HN.out h1) 1).trans rfl
      have HB1 := Aside0.mk h1
      clear h1 k0
      go_wp2_with fail
      refine (H.out _ HB1.out).mono ?_
      rintro e w2 (⟨i, hi, hp, hx, rfl, hw⟩ | ⟨hx, rfl, hw⟩)
      · have HV := Aside0.mk (show validB n l = false by
          unfold validB
          rw [all_false hi (by simpa using hp), Bool.and_false])
        have HB2 := Aside0.mk (below_step (below_step HB.out HB1.out) hw)
        clear hi hp hx hw
        simp only [encO, Option.isSome]
        go_wp2_with fail
        go_ret
        exact ⟨by rw [HV.out]; rfl, HB2.out⟩
      · have HV := Aside0.mk (show validB n l = true by
          unfold validB
          rw [all_true (fun j hj => by simpa using hx j hj), hnb, decide_eq_true H60.out]
          rfl)
        have HB2 := Aside0.mk (below_step (below_step HB.out HB1.out) hw)
        clear hx hw
        simp only [encO, Option.isSome]
        go_wp2_with fail
        go_ret
        exact ⟨by rw [HV.out]; rfl, HB2.out⟩
    · have hb : decide ((l.length : Int) ≤ 60) = false := decide_eq_false (by omega)
      have HV := Aside0.mk (show validB n l = false by unfold validB; rw [decide_eq_false h60, Bool.and_false, Bool.false_and])
      have HN := Aside0.mk hnew
      have HB := Aside0.mk hbel
      have k0 : (w.alloc (.cells #[.int .i64 n, .slice A l.length c] 30)).cell? ⟨w.heap.size, 0, none⟩ = some (.int .i64 n) := (blk_cell hnew 0).trans rfl
      clear hnew hbel hl h60 hn
      go_enter Try.func27, Try.ntmps27
      go_wp2_with fail
      refine (isIn_calls n 0 16 _).mono ?_
      rintro e w1 ⟨rfl, h1⟩
      rw [hnb]
      have k1 : w1.cell? ⟨w.heap.size, 1, none⟩ = some (.slice A l.length c) := (blk_cell (blk_below HN.out h1) 1).trans rfl
      have HB1 := Aside0.mk (below_step HB.out h1)
      clear h1 k0
      go_wp2_with fail
      go_ret
      exact ⟨by rw [HV.out]; rfl, HB1.out⟩
  · have hnb : decide (0 ≤ n ∧ n ≤ 16) = false := decide_eq_false hn
    have HV := Aside0.mk (show validB n l = false by unfold validB; rw [hnb, Bool.false_and, Bool.false_and])
    have HB := Aside0.mk hbel
    have k0 : (w.alloc (.cells #[.int .i64 n, .slice A l.length c] 30)).cell? ⟨w.heap.size, 0, none⟩ = some (.int .i64 n) := (blk_cell hnew 0).trans rfl
    clear hnew hbel hl hn
    go_enter Try.func27, Try.ntmps27
    go_wp2_with fail
    refine (isIn_calls n 0 16 _).mono ?_
    rintro e w1 ⟨rfl, h1⟩
    rw [hnb]
    have HB1 := Aside0.mk (below_step HB.out h1)
    clear h1 k0
    go_wp2_with fail
    go_ret
    exact ⟨by rw [HV.out]; rfl, HB1.out⟩
end Go.Proofs.Ytlokeimfmbgigaa.Bk

set_option linter.unusedVariables false
namespace Go.Proofs.Ytlokeimfmbgigaa.Bk
open Go.RowKit Go.Shelf Go.Proofs.YtlokeimfmbgigaaW.PrintWords Go.Proofs.YtlokeimfmbgigaaW.PrintLast Go.Proofs.YtlokeimfmbgigaaW.PrintMore
open Go.Proofs.Ytlokeimfmbgigaa.Ref Go.Proofs.Ytlokeimfmbgigaa.Pl

def nearB (v : Int) : Bool := decide (-1000000000000 ≤ v ∧ v ≤ 1000000000000)
/-- Does a situation keep a bound? -/
def keepB (x : List Int) (y : S35) : Bool := decide (rd x y.f1 - rd x y.f0 ≤ y.f2)
def allowedB (n : Int) (l : List S35) (x : List Int) : Bool := validB n l && decide ((x.length : Int) = n) && x.all nearB && l.all (keepB x)
theorem allowed1_calls (v : Int) (w : World) : Calls Try.prog 43 #[.int .i64 v] w fun e w' => e = .returned (.bool (!nearB v)) ∧ Below w.heap.size w w' := by
  go_enter Try.func43, Try.ntmps43
  go_wp2_with fail
  refine (isIn_calls v (-1000000000000) 1000000000000 _).mono ?_
  rintro e w1 ⟨rfl, h1⟩
  have H1 := Aside0.mk h1
  clear h1
  have hb : decide (-1000000000000 ≤ v ∧ v ≤ 1000000000000) = nearB v := rfl
  rw [hb]
  clear hb
  generalize hb : nearB v = b
  have HBB := Aside0.mk hb
  clear hb
  go_wp2_with fail
  go_ret
  exact ⟨by rw [HBB.out]; rfl, H1.out⟩
set_option maxHeartbeats 1000000 in
theorem allowed2_calls (y : S35) (x : List Int) (X : Option Addr) (c N : Nat) (w : World) (hN : w.heap[N]? = some (.cells #[.slice X x.length c] 22 (0, 0))) (hx : Kd.C (Kd.int .i64) w X x.length x)
    (h0 : 0 ≤ y.f0 ∧ y.f0 < (x.length : Int)) (h1 : 0 ≤ y.f1 ∧ y.f1 < (x.length : Int)) (hb0 : nearB (rd x y.f0) = true) (hb1 : nearB (rd x y.f1) = true) :
    Calls Try.prog 47 #[aggB y, .pointer (some ⟨N, 0, none⟩)] w fun e w' => e = .returned (.bool (!keepB x y)) ∧ Below w.heap.size w w' := by
  have hal := (Below.refl _ w).alloc (Nat.le_refl _) (.cells #[.int .i64 y.f0, .int .i64 y.f1, .int .i64 y.f2] 35)
  have k0 : (w.alloc (.cells #[.int .i64 y.f0, .int .i64 y.f1, .int .i64 y.f2] 35)).cell? ⟨N, 0, none⟩ = some (.slice X x.length c) := (blk_cell (blk_alloc hN _) 0).trans rfl
  obtain ⟨ad, rfl, c0⟩ := Kd.at_int (Kd.C_below hx hal) y.f0 h0.1 (by omega)
  obtain ⟨ad', e', c1⟩ := Kd.at_int (Kd.C_below hx hal) y.f1 h1.1 (by omega)
  obtain rfl : ad = ad' := by injection e'
  have q1 := eq_true h0.1
  have q2 := eq_true h0.2
  have q3 := eq_true h1.1
  have q4 := eq_true h1.2
  simp only [nearB, decide_eq_true_eq] at hb0 hb1
  have hk : decide (y.f2 < rd x y.f1 - rd x y.f0) = !keepB x y := by
    unfold keepB
    by_cases h : rd x y.f1 - rd x y.f0 ≤ y.f2
    · rw [decide_eq_true h, decide_eq_false (by omega)]; rfl
    · rw [decide_eq_false h, decide_eq_true (by omega)]; rfl
  have hw : IntKind.i64.wrap (rd x y.f1 - rd x y.f0) = rd x y.f1 - rd x y.f0 := IntWalk.i64_in _ (by omega)
  generalize hkb : (!keepB x y) = kb at hk
  have HKB := Aside0.mk hkb
  have HAL := Aside0.mk hal
  generalize rd x y.f0 = v0 at *
  generalize rd x y.f1 = v1 at *
  clear hN hx h0 h1 hb0 hb1 hal e' hkb
  unfold aggB
  go_enter Try.func47, Try.ntmps47
  go_wp2_with fail
  go_quiet (fail)
  go_wp2_with fail
  go_ret
  exact ⟨rfl, pw_below_drewN HAL.out _⟩
theorem near_false {x : List Int} {i : Nat} (hi : i < x.length) (h : nearB (x.getD i 0) = false) : x.all nearB = false := by
  rw [← Bool.not_eq_true]
  intro ha
  rw [List.all_eq_true] at ha
  have := ha (x.getD i 0) (by rw [List.getD_eq_getElem?_getD, List.getElem?_eq_getElem hi]; exact List.getElem_mem hi)
  rw [h] at this
  exact absurd this (by decide)
theorem near_true {x : List Int} (h : ∀ j, j < x.length → nearB (x.getD j 0) = true) : x.all nearB = true := by
  rw [List.all_eq_true]
  intro v hv
  obtain ⟨j, hj, rfl⟩ := List.getElem_of_mem hv
  have := h j hj
  rwa [List.getD_eq_getElem?_getD, List.getElem?_eq_getElem hj] at this
theorem keep_false {x : List Int} {l : List S35} {i : Nat} (hi : i < l.length) (h : keepB x (l.getD i z35) = false) : l.all (keepB x) = false := by
  rw [← Bool.not_eq_true]
  intro ha
  rw [List.all_eq_true] at ha
  have := ha (l.getD i z35) (by rw [List.getD_eq_getElem?_getD, List.getElem?_eq_getElem hi]; exact List.getElem_mem hi)
  rw [h] at this
  exact absurd this (by decide)
theorem keep_true {x : List Int} {l : List S35} (h : ∀ j, j < l.length → keepB x (l.getD j z35) = true) : l.all (keepB x) = true := by
  rw [List.all_eq_true]
  intro y hy
  obtain ⟨j, hj, rfl⟩ := List.getElem_of_mem hy
  have := h j hj
  rwa [List.getD_eq_getElem?_getD, List.getElem?_eq_getElem hj] at this
theorem valid_at {n : Int} {l : List S35} (h : validB n l = true) {i : Nat} (hi : i < l.length) : (0 ≤ (l.getD i z35).f0 ∧ (l.getD i z35).f0 < n) ∧ (0 ≤ (l.getD i z35).f1 ∧ (l.getD i z35).f1 < n) ∧ -1000000000 ≤ (l.getD i z35).f2 ∧ (l.getD i z35).f2 ≤ 1000000000 := by
  unfold validB at h
  rw [Bool.and_eq_true, List.all_eq_true] at h
  have := h.2 (l.getD i z35) (by rw [List.getD_eq_getElem?_getD, List.getElem?_eq_getElem hi]; exact List.getElem_mem hi)
  unfold boundB at this
  simp only [Bool.and_eq_true, decide_eq_true_eq] at this
  omega
set_option maxHeartbeats 4000000 in
theorem allowed_calls (n : Int) (l : List S35) (A : Option Addr) (c : Nat) (x : List Int) (X : Option Addr) (cx : Nat) (w : World) (hl : Kd.C k35 w A l.length l) (hx : Kd.C (Kd.int .i64) w X x.length x) :
    Calls Try.prog 18 #[.agg #[.int .i64 n, .slice A l.length c], .slice X x.length cx] w fun e w' => e = .returned (.bool (allowedB n l x)) ∧ Below w.heap.size w w' := by
  have h1 := (Below.refl _ w).alloc (Nat.le_refl _) (.cells #[.int .i64 n, .slice A l.length c] 30)
  have h2 := (Below.refl _ (w.alloc (.cells #[.int .i64 n, .slice A l.length c] 30))).alloc (Nat.le_refl _) (.cells #[.slice X x.length cx] 22)
  have hr := blk_new (w.alloc (.cells #[.int .i64 n, .slice A l.length c] 30)) (.cells #[.slice X x.length cx] 22)
  rw [World.size_alloc] at hr
  have F := Aside0.mk (And.intro (Kd.C_below (Kd.C_below hl h1) h2) (And.intro (Kd.C_below (Kd.C_below hx h1) h2) (And.intro (blk_below (blk_new w (.cells #[.int .i64 n, .slice A l.length c] 30)) h2) (And.intro hr (below_step h1 h2)))))
  have k0 : ((w.alloc (.cells #[.int .i64 n, .slice A l.length c] 30)).alloc (.cells #[.slice X x.length cx] 22)).cell? ⟨w.heap.size, 0, none⟩ = some (.int .i64 n) := (blk_cell F.out.2.2.1 0).trans rfl
  have k1 : ((w.alloc (.cells #[.int .i64 n, .slice A l.length c] 30)).alloc (.cells #[.slice X x.length cx] 22)).cell? ⟨w.heap.size, 1, none⟩ = some (.slice A l.length c) := (blk_cell F.out.2.2.1 1).trans rfl
  clear hl hx h1 h2 hr
  go_enter Try.func18, Try.ntmps18
  go_wp2_with fail
  refine (valid_calls n l A c _ F.out.1).mono ?_
  rintro e w1 ⟨rfl, h⟩
  replace F := Aside0.mk (And.intro (Kd.C_below F.out.1 h) (And.intro (Kd.C_below F.out.2.1 h) (And.intro (blk_below F.out.2.2.1 h) (And.intro (blk_below F.out.2.2.2.1 h) (below_step F.out.2.2.2.2 h)))))
  clear k0 k1 h
  have k0 : w1.cell? ⟨w.heap.size, 0, none⟩ = some (.int .i64 n) := (blk_cell F.out.2.2.1 0).trans rfl
  have k2 : w1.cell? ⟨w.heap.size + 1, 0, none⟩ = some (.slice X x.length cx) := (blk_cell F.out.2.2.2.1 0).trans rfl
  cases hv : validB n l with
  | false =>
    have HV := Aside0.mk (show allowedB n l x = false by unfold allowedB; rw [hv]; rfl)
    clear hv
    go_wp2_with fail
    go_ret
    exact ⟨by rw [HV.out]; rfl, F.out.2.2.2.2⟩
  | true =>
    by_cases hn : (x.length : Int) = n
    · have hne : ((x.length : Int) != n) = false := bne_eq_false_iff_eq.mpr hn
      have HVN := Aside0.mk (And.intro hv hn)
      clear hv hn
      go_wp2_with fail
      refine (containsI_calls x X cx 43 #[] (fun j => !nearB (x.getD j 0)) (fun _ W => Below w1.heap.size w1 W) (fun _ W => Below w1.heap.size w1 W) w1 (enters_of Try.func43 (by kernel_rfl) rfl) (fun i W hW => Kd.C_below F.out.2.1 hW)
        (fun i W hi hW => (allowed1_calls (x.getD i 0) W).mono (fun e W' hh => ⟨hh.1, fun _ => below_step hW hh.2, fun _ => below_step hW hh.2⟩)) (Below.refl _ _)).mono ?_
      rintro e w2 (⟨i, hi, hp, hq, rfl, hw⟩ | ⟨hq, rfl, hw⟩)
      · have HV := Aside0.mk (show allowedB n l x = false by unfold allowedB; rw [near_false hi (by simpa using hp), Bool.and_false, Bool.false_and])
        have HB := Aside0.mk (below_step F.out.2.2.2.2 hw)
        clear hi hp hq hw
        simp only [encO, Option.isSome]
        go_wp2_with fail
        go_ret
        exact ⟨by rw [HV.out]; rfl, HB.out⟩
      · replace F := Aside0.mk (And.intro (Kd.C_below F.out.1 hw) (And.intro (Kd.C_below F.out.2.1 hw) (And.intro (blk_below F.out.2.2.1 hw) (And.intro (blk_below F.out.2.2.2.1 hw) (below_step F.out.2.2.2.2 hw)))))
        have HQ := Aside0.mk (show ∀ j, j < x.length → nearB (x.getD j 0) = true from fun j hj => by simpa using hq j hj)
        clear k0 k2 hq hw
        have k1 : w2.cell? ⟨w.heap.size, 1, none⟩ = some (.slice A l.length c) := (blk_cell F.out.2.2.1 1).trans rfl
        simp only [encO, Option.isSome]
        go_wp2_with fail
        refine (contains_calls l A c 47 #[.pointer (some ⟨w.heap.size + 1, 0, none⟩)] (fun j => !keepB x (l.getD j z35)) (fun _ W => Below w2.heap.size w2 W) (fun _ W => Below w2.heap.size w2 W) w2 (enters_of Try.func47 (by kernel_rfl) rfl) (fun i W hW => Kd.C_below F.out.1 hW)
          (fun i W hi hW => (allowed2_calls (l.getD i z35) x X cx (w.heap.size + 1) W (blk_below F.out.2.2.2.1 hW) (Kd.C_below F.out.2.1 hW) (by have := valid_at HVN.out.1 hi; have := HVN.out.2; omega) (by have := valid_at HVN.out.1 hi; have := HVN.out.2; omega)
            (HQ.out _ (by have := valid_at HVN.out.1 hi; have := HVN.out.2; omega)) (HQ.out _ (by have := valid_at HVN.out.1 hi; have := HVN.out.2; omega))).mono (fun e W' hh => ⟨hh.1, fun _ => below_step hW hh.2, fun _ => below_step hW hh.2⟩)) (Below.refl _ _)).mono ?_
        rintro e w3 (⟨i, hi, hp, hq, rfl, hw⟩ | ⟨hq, rfl, hw⟩)
        · have HV := Aside0.mk (show allowedB n l x = false by unfold allowedB; rw [keep_false hi (by simpa using hp), Bool.and_false])
          have HB := Aside0.mk (below_step F.out.2.2.2.2 hw)
          clear hi hp hq hw
          simp only [encO, Option.isSome]
          go_wp2_with fail
          go_ret
          exact ⟨by rw [HV.out]; rfl, HB.out⟩
        · have HV := Aside0.mk (show allowedB n l x = true by unfold allowedB; rw [keep_true (fun j hj => by simpa using hq j hj), near_true HQ.out, HVN.out.1, decide_eq_true HVN.out.2]; rfl)
          have HB := Aside0.mk (below_step F.out.2.2.2.2 hw)
          clear hq hw
          simp only [encO, Option.isSome]
          go_wp2_with fail
          go_ret
          exact ⟨by rw [HV.out]; rfl, HB.out⟩
    · have hne : ((x.length : Int) != n) = true := bne_iff_ne.mpr hn
      have HV := Aside0.mk (show allowedB n l x = false by unfold allowedB; rw [decide_eq_false hn, Bool.and_false, Bool.false_and, Bool.false_and])
      clear hv hn
      go_wp2_with fail
      go_ret
      exact ⟨by rw [HV.out]; rfl, F.out.2.2.2.2⟩
end Go.Proofs.Ytlokeimfmbgigaa.Bk

set_option linter.unusedVariables false
set_option linter.unusedSimpArgs false
namespace Go.Proofs.Ytlokeimfmbgigaa.Pl
open Go.Proofs.YtlokeimfmbgigaaW.PrintWords
open Go.Proofs.Ytlokeimfmbgigaa.Ref Go.Proofs.Ytlokeimfmbgigaa.Bk

def bds (l : List S35) : List Bd := l.map fun x => (x.f0.toNat, x.f1.toNat, x.f2)
theorem valid_mem {n : Int} {l : List S35} (h : validB n l = true) {x : S35} (hx : x ∈ l) : (0 ≤ x.f0 ∧ x.f0 < n) ∧ (0 ≤ x.f1 ∧ x.f1 < n) ∧ -1000000000 ≤ x.f2 ∧ x.f2 ≤ 1000000000 := by
  obtain ⟨i, hi, rfl⟩ := List.getElem_of_mem hx
  have := valid_at h hi
  rwa [List.getD_eq_getElem?_getD, List.getElem?_eq_getElem hi] at this
theorem bds_in {n : Int} {l : List S35} (h : validB n l = true) : In n.toNat (bds l) := by
  intro e he
  obtain ⟨x, hx, rfl⟩ := List.mem_map.1 he
  have := valid_mem h hx
  simp only
  omega
theorem bds_small {n : Int} {l : List S35} (h : validB n l = true) : ∀ e ∈ bds l, -1000000000 ≤ e.2.2 ∧ e.2.2 ≤ 1000000000 := by
  intro e he
  obtain ⟨x, hx, rfl⟩ := List.mem_map.1 he
  exact (valid_mem h hx).2.2
theorem keeps_iff (l : List S35) (x : List Int) : l.all (keepB x) = true ↔ Keeps (bds l) (fun j => x.getD j 0) := by
  rw [List.all_eq_true]
  constructor
  · intro h e he
    obtain ⟨y, hy, rfl⟩ := List.mem_map.1 he
    have := h y hy
    unfold keepB at this
    rw [decide_eq_true_eq] at this
    exact this
  · intro h y hy
    have := h (y.f0.toNat, y.f1.toNat, y.f2) (List.mem_map.2 ⟨y, hy, rfl⟩)
    unfold keepB
    rw [decide_eq_true_eq]
    exact this
/-- Where a situation is allowed, there is no contradiction. -/
theorem allowed_fine {n : Int} {l : List S35} {x : List Int} (h : allowedB n l x = true) : Fine n.toNat (bds l) := by
  unfold allowedB at h
  rw [Bool.and_eq_true] at h
  intro i s _ hc
  have := hc.keeps ((keeps_iff l x).1 h.2)
  omega
/-- An allowed situation keeps all distances. -/
theorem allowed_dist {n : Int} {l : List S35} {x : List Int} (h : allowedB n l x = true) {i k : Nat} {d : Int} (hd : distT n.toNat (bds l) i k = some d) : x.getD k 0 - x.getD i 0 ≤ d := by
  have h' := h
  unfold allowedB at h'
  simp only [Bool.and_eq_true] at h'
  exact ((dist_least (bds_in h'.1.1.1) (allowed_fine h)).1 i k d hd).keeps ((keeps_iff l x).1 h'.2)
end Go.Proofs.Ytlokeimfmbgigaa.Pl

set_option linter.unusedVariables false
namespace Go.Proofs.Ytlokeimfmbgigaa.Bk
open Go.RowKit Go.Shelf Go.Proofs.YtlokeimfmbgigaaW.PrintWords Go.Proofs.YtlokeimfmbgigaaW.PrintLast Go.Proofs.YtlokeimfmbgigaaW.PrintMore
open Go.Proofs.Ytlokeimfmbgigaa.Ref Go.Proofs.Ytlokeimfmbgigaa.Pl

/-- n rows of n numbers: block g holds the rows' slices, block (rows j) row j; all laid since base. -/
structure Mat (w : World) (base g n : Nat) (rows caps : Nat → Nat) (D : Ti) : Prop where
  outer : ∃ cur : Array Value, w.heap[g]? = some (.cells cur 22 (0, 0)) ∧ ∀ j, j < n → cur[j]? = some (.slice (some ⟨rows j, 0, none⟩) n (caps j))
  inner : ∀ j, j < n → ∃ cur : Array Value, w.heap[rows j]? = some (.cells cur 3 (0, 0)) ∧ ∀ k, k < n → cur[k]? = some (.int .i64 (D j k))
  gb : base ≤ g
  rb : ∀ j, j < n → base ≤ rows j
  inj : ∀ i j, i < n → j < n → rows i = rows j → i = j
  cap : ∀ j, j < n → n ≤ caps j
namespace Mat
variable {w w' : World} {base g n : Nat} {rows caps : Nat → Nat} {D : Ti}
theorem below (h : Mat w base g n rows caps D) (hb : Below w.heap.size w w') : Mat w' base g n rows caps D :=
  ⟨by obtain ⟨cur, h1, h2⟩ := h.outer; exact ⟨cur, blk_below h1 hb, h2⟩, fun j hj => by obtain ⟨cur, h1, h2⟩ := h.inner j hj; exact ⟨cur, blk_below h1 hb, h2⟩, h.gb, h.rb, h.inj, h.cap⟩
theorem row (h : Mat w base g n rows caps D) {j : Nat} (hj : j < n) : w.cell? ⟨g, j, none⟩ = some (.slice (some ⟨rows j, 0, none⟩) n (caps j)) := by
  obtain ⟨cur, h1, h2⟩ := h.outer
  exact (blk_cell h1 j).trans (h2 j hj)
theorem cell (h : Mat w base g n rows caps D) {j k : Nat} (hj : j < n) (hk : k < n) : w.cell? ⟨rows j, k, none⟩ = some (.int .i64 (D j k)) := by
  obtain ⟨cur, h1, h2⟩ := h.inner j hj
  exact (blk_cell h1 k).trans (h2 k hk)
theorem frozen (h : Mat w base g n rows caps D) {j : Nat} (hj : j < n) (k : Nat) : w.frozen? ⟨rows j, k, none⟩ = false := by
  obtain ⟨cur, h1, h2⟩ := h.inner j hj
  exact blk_frozen h1 k
theorem ne (h : Mat w base g n rows caps D) {j : Nat} (hj : j < n) : g ≠ rows j := by
  obtain ⟨cur, h1, _⟩ := h.outer
  obtain ⟨cur', h1', _⟩ := h.inner j hj
  exact blk_ne h1 h1' (by decide)
theorem put (h : Mat w base g n rows caps D) {i k : Nat} (hi : i < n) (hk : k < n) (v : Int) : Mat (w.setCell ⟨rows i, k, none⟩ (.int .i64 v)) base g n rows caps (updI D i k v) := by
  refine ⟨?_, fun j hj => ?_, h.gb, h.rb, h.inj, h.cap⟩
  · obtain ⟨cur, h1, h2⟩ := h.outer
    exact ⟨cur, blk_far h1 (h.ne hi) _, h2⟩
  · obtain ⟨cur, h1, h2⟩ := h.inner j hj
    by_cases hij : j = i
    · subst hij
      refine ⟨cur.setIfInBounds k (.int .i64 v), blk_set h1 k _, fun b hb => ?_⟩
      unfold updI
      by_cases hbk : b = k
      · subst hbk
        rw [if_pos ⟨rfl, rfl⟩]
        have hlt : b < cur.size := (Array.getElem?_eq_some_iff.1 (h2 b hb)).1
        rw [Array.getElem?_setIfInBounds, if_pos rfl, if_pos hlt]
      · rw [if_neg (fun e => hbk e.2), Array.getElem?_setIfInBounds, if_neg (fun e => hbk e.symm)]
        exact h2 b hb
    · refine ⟨cur, blk_far h1 (fun e => hij (h.inj j i hj hi e)) _, fun b hb => ?_⟩
      unfold updI
      rw [if_neg (fun e => hij e.1)]
      exact h2 b hb
theorem drewN (h : Mat w base g n rows caps D) (q : Nat) : Mat (w.drewN q) base g n rows caps D := h.below (pw_below_drewN (Below.refl _ _) q)
end Mat
end Go.Proofs.Ytlokeimfmbgigaa.Bk

set_option linter.unusedVariables false
namespace Go.Proofs.Ytlokeimfmbgigaa.Pl
open Go.RowKit Go.Proofs.YtlokeimfmbgigaaW.PrintWords Go.Proofs.YtlokeimfmbgigaaW.PrintLast Go.Proofs.YtlokeimfmbgigaaW.PrintMore
open Go.Proofs.Ytlokeimfmbgigaa.Ref

/-- Where a chain ends, and its sum; false if it is none. -/
def folB (l : List S35) : Int → Int → List Int → Int × Int × Bool
  | fr, sum, [] => (fr, sum, true)
  | fr, sum, k :: ks => if 0 ≤ k ∧ k ≤ (l.length : Int) - 1 ∧ (rd_T35 l k).f0 = fr then folB l (rd_T35 l k).f1 (sum + (rd_T35 l k).f2) ks else (0, 0, false)
def followP (l : List S35) (fr : Int) (ks : List Int) : Int × Int × Bool := ((folB l fr 0 ks).1, (folB l fr 0 ks).2.1, (folB l fr 0 ks).2.2 && decide ((ks.length : Int) ≤ 60))
/-- Small bounds, not too many. -/
def Small (l : List S35) : Prop := l.length ≤ 60 ∧ ∀ k : Int, -1000000000 ≤ (rd_T35 l k).f2 ∧ (rd_T35 l k).f2 ≤ 1000000000
theorem small_valid {n : Int} {l : List S35} (h : validB n l = true) : Small l := by
  have h' := h
  unfold validB at h'
  simp only [Bool.and_eq_true, decide_eq_true_eq] at h'
  refine ⟨h'.1.2, fun k => ?_⟩
  unfold rd_T35
  by_cases hk : k.toNat < l.length
  · exact (Bk.valid_at h hk).2.2
  · rw [List.getD_eq_getElem?_getD, List.getElem?_eq_none (by omega)]
    decide
theorem wrapI {x : Int} (h : -1000000000000000000 ≤ x ∧ x ≤ 1000000000000000000) : wrap64 x = x := by unfold wrap64; omega
theorem sum_in {i L : Nat} {sum f2 : Int} (hi : i + 1 ≤ L + 1) (hL : L ≤ 1000000) (hs : -(1000000000 * (i : Int)) ≤ sum ∧ sum ≤ 1000000000 * (i : Int)) (hb : -1000000000 ≤ f2 ∧ f2 ≤ 1000000000) : wrap64 (sum + f2) = sum + f2 := wrapI (by omega)
theorem idx_in {i L : Nat} (hi : i + 1 ≤ L + 1) (hL : L ≤ 1000000) : wrap64 ((i : Int) + 1) = ((i + 1 : Nat) : Int) := by rw [wrapI (by omega)]; omega
theorem step_in {i : Nat} {sum f2 : Int} (hs : -(1000000000 * (i : Int)) ≤ sum ∧ sum ≤ 1000000000 * (i : Int)) (hb : -1000000000 ≤ f2 ∧ f2 ≤ 1000000000) : -(1000000000 * ((i + 1 : Nat) : Int)) ≤ sum + f2 ∧ sum + f2 ≤ 1000000000 * ((i + 1 : Nat) : Int) := by omega
theorem drop_consI (ks : List Int) (i : Nat) (h : i < ks.length) : ks.drop i = ks.getD i 0 :: ks.drop (i + 1) := by
  rw [List.drop_eq_getElem_cons h, List.getD_eq_getElem?_getD, List.getElem?_eq_getElem h]
  rfl
theorem follow_l0 (n : Int) (l : List S35) (hl : Small l) (ks : List Int) (hks : ks.length ≤ 1000000) (d : Nat) : ∀ (k i : Nat) (fr sum x14 : Int), x14 = (i : Int) → ks.length - i = d → i ≤ ks.length → d < k → -(1000000000 * (i : Int)) ≤ sum ∧ sum ≤ 1000000000 * (i : Int) →
    between_follow.l0 k fr ks sum ks (ks.length : Int) x14 n l = some ((folB l fr sum (ks.drop i)).1, (folB l fr sum (ks.drop i)).2.1, (folB l fr sum (ks.drop i)).2.2 && decide ((ks.length : Int) ≤ 60)) := by
  induction d with
  | zero =>
    intro k i fr sum x14 hx hd hi hk hs
    subst hx
    obtain ⟨k, rfl⟩ : ∃ m, k = m + 1 := ⟨k - 1, by omega⟩
    simp only [between_follow.l0]
    rw [if_neg (by omega), List.drop_eq_nil_of_le (by omega)]
    simp [folB]
  | succ d ih =>
    intro k i fr sum x14 hx hd hi hk hs
    subst hx
    obtain ⟨k, rfl⟩ : ∃ m, k = m + 1 := ⟨k - 1, by omega⟩
    simp only [between_follow.l0]
    have hw1 : wrap64 ((l.length : Int) - 1) = (l.length : Int) - 1 := wrapI (by have := hl.1; omega)
    have hrd : rd ks (i : Int) = ks.getD i 0 := by unfold rd; rw [Int.toNat_natCast]
    rw [if_pos (by omega : (i : Int) < (ks.length : Int)), if_pos (by omega : (0 : Int) ≤ (i : Int)), if_pos (by omega : (i : Int) < (ks.length : Int)), hw1, hrd, isIn_f, drop_consI ks i (by omega)]
    generalize ks.getD i 0 = q
    have hb := hl.2 q
    simp only [folB, Option.bind]
    by_cases hq : 0 ≤ q ∧ q ≤ (l.length : Int) - 1
    · rw [decide_eq_true hq, if_pos rfl, if_pos hq.1, if_pos (by omega : q < (l.length : Int))]
      by_cases hf : (rd_T35 l q).f0 = fr
      · rw [if_pos hf, if_pos ⟨hq.1, hq.2, hf⟩]
        obtain ⟨f1, hf1⟩ : ∃ f1, (rd_T35 l q).f1 = f1 := ⟨_, rfl⟩
        obtain ⟨f2, hf2⟩ : ∃ f2, (rd_T35 l q).f2 = f2 := ⟨_, rfl⟩
        rw [hf2] at hb
        rw [hf1, hf2, sum_in (Nat.succ_le_succ hi) hks hs hb, idx_in (Nat.succ_le_succ hi) hks]
        exact ih k (i + 1) _ _ _ rfl (by omega) (by omega) (by omega) (step_in hs hb)
      · rw [if_neg hf, if_neg (fun e => hf e.2.2)]
        rfl
    · rw [decide_eq_false hq, if_neg (by decide), if_neg (fun e => hq ⟨e.1, e.2.1⟩)]
      rfl
theorem follow_f (n : Int) (l : List S35) (hl : Small l) (fr : Int) (ks : List Int) (hks : ks.length ≤ 1000000) : between_follow.f 1000001 n l fr ks = some (followP l fr ks) := by
  unfold between_follow.f
  exact follow_l0 n l hl ks hks ks.length 1000001 0 fr 0 0 rfl (by omega) (by omega) (by omega) (by omega)
end Go.Proofs.Ytlokeimfmbgigaa.Pl
namespace Go.Proofs.Ytlokeimfmbgigaa.Bk
open Go.RowKit Go.Shelf Go.Proofs.YtlokeimfmbgigaaW.PrintWords Go.Proofs.YtlokeimfmbgigaaW.PrintLast Go.Proofs.YtlokeimfmbgigaaW.PrintMore
open Go.Proofs.Ytlokeimfmbgigaa.Ref Go.Proofs.Ytlokeimfmbgigaa.Pl
theorem follow_calls (n : Int) (l : List S35) (hs : Small l) (A : Option Addr) (c : Nat) (fr : Int) (ks : List Int) (K : Option Addr) (ck : Nat) (w : World) (hl : Kd.C k35 w A l.length l) (hc : l.length ≤ c) (hk : Kd.C (Kd.int .i64) w K ks.length ks) (hck : ks.length ≤ ck) (hks : ks.length ≤ 1000000)
    (r1 r2 : Int) (r3 : Bool) (hr : followP l fr ks = (r1, r2, r3)) :
    Calls Try.prog 56 #[.agg #[.int .i64 n, .slice A l.length c], .int .i64 fr, .slice K ks.length ck] w fun e w' => e = .returned (.tuple #[.int .i64 r1, .int .i64 r2, .bool r3]) ∧ Below w.heap.size w w' :=
  between_follow.calls 1000001 n A c l fr K ck ks r1 r2 r3 w hl hc hk hck ((follow_f n l hs fr ks hks).trans (by rw [hr]))
end Go.Proofs.Ytlokeimfmbgigaa.Bk

set_option linter.unusedVariables false
namespace Go.Proofs.Ytlokeimfmbgigaa.Bk
open Go.RowKit Go.Shelf Go.Proofs.YtlokeimfmbgigaaW.PrintWords Go.Proofs.YtlokeimfmbgigaaW.PrintLast Go.Proofs.YtlokeimfmbgigaaW.PrintMore
open Go.Proofs.Ytlokeimfmbgigaa.Ref Go.Proofs.Ytlokeimfmbgigaa.Pl

/-- Does a chain show that a bound follows? -/
def chainB (l : List S35) (x : S35) (ks : List Int) : Bool := (followP l x.f0 ks).2.2 && ((followP l x.f0 ks).1 == x.f1) && decide ((followP l x.f0 ks).2.1 ≤ x.f2)
def checkChainB (n : Int) (l : List S35) (x : S35) (ks : List Int) : Bool := validB n l && boundB n x && chainB l x ks
theorem valid_n {n : Int} {l : List S35} (h : validB n l = true) : 0 ≤ n ∧ n ≤ 16 := by
  unfold validB at h
  simp only [Bool.and_eq_true, decide_eq_true_eq] at h
  exact h.1.1
set_option maxHeartbeats 4000000 in
theorem checkChain_calls (n : Int) (l : List S35) (A : Option Addr) (c : Nat) (x : S35) (ks : List Int) (K : Option Addr) (ck : Nat) (w : World) (hl : Kd.C k35 w A l.length l) (hc : l.length ≤ c) (hk : Kd.C (Kd.int .i64) w K ks.length ks) (hck : ks.length ≤ ck) (hks : ks.length ≤ 1000000) :
    Calls Try.prog 33 #[.agg #[.int .i64 n, .slice A l.length c], .agg #[.int .i64 x.f0, .int .i64 x.f1, .int .i64 x.f2], .slice K ks.length ck] w fun e w' => e = .returned (.bool (checkChainB n l x ks)) ∧ Below w.heap.size w w' := by
  have h1 := (Below.refl _ w).alloc (Nat.le_refl _) (.cells #[.int .i64 n, .slice A l.length c] 30)
  have h2 := (Below.refl _ (w.alloc (.cells #[.int .i64 n, .slice A l.length c] 30))).alloc (Nat.le_refl _) (.cells #[.int .i64 x.f0, .int .i64 x.f1, .int .i64 x.f2] 35)
  have hr := blk_new (w.alloc (.cells #[.int .i64 n, .slice A l.length c] 30)) (.cells #[.int .i64 x.f0, .int .i64 x.f1, .int .i64 x.f2] 35)
  rw [World.size_alloc] at hr
  have F := Aside0.mk (And.intro (Kd.C_below (Kd.C_below hl h1) h2) (And.intro (Kd.C_below (Kd.C_below hk h1) h2) (And.intro (blk_below (blk_new w (.cells #[.int .i64 n, .slice A l.length c] 30)) h2) (And.intro hr (below_step h1 h2)))))
  have k0 : ((w.alloc (.cells #[.int .i64 n, .slice A l.length c] 30)).alloc (.cells #[.int .i64 x.f0, .int .i64 x.f1, .int .i64 x.f2] 35)).cell? ⟨w.heap.size, 0, none⟩ = some (.int .i64 n) := (blk_cell F.out.2.2.1 0).trans rfl
  have k1 : ((w.alloc (.cells #[.int .i64 n, .slice A l.length c] 30)).alloc (.cells #[.int .i64 x.f0, .int .i64 x.f1, .int .i64 x.f2] 35)).cell? ⟨w.heap.size, 1, none⟩ = some (.slice A l.length c) := (blk_cell F.out.2.2.1 1).trans rfl
  have LN := Aside0.mk (And.intro hc (And.intro hck hks))
  clear hl hk h1 h2 hr hc hck hks
  go_enter Try.func33, Try.ntmps33
  go_wp2_with fail
  refine (valid_calls n l A c _ F.out.1).mono ?_
  rintro e w1 ⟨rfl, h⟩
  replace F := Aside0.mk (And.intro (Kd.C_below F.out.1 h) (And.intro (Kd.C_below F.out.2.1 h) (And.intro (blk_below F.out.2.2.1 h) (And.intro (blk_below F.out.2.2.2.1 h) (below_step F.out.2.2.2.2 h)))))
  clear k0 k1 h
  cases hv : validB n l with
  | false =>
    have HV := Aside0.mk (show checkChainB n l x ks = false by unfold checkChainB; rw [hv]; rfl)
    clear hv
    go_wp2_with fail
    go_ret
    exact ⟨by rw [HV.out]; rfl, F.out.2.2.2.2⟩
  | true =>
    have HVA := Aside0.mk hv
    clear hv
    have k0 : w1.cell? ⟨w.heap.size, 0, none⟩ = some (.int .i64 n) := (blk_cell F.out.2.2.1 0).trans rfl
    have x0 : w1.cell? ⟨w.heap.size + 1, 0, none⟩ = some (.int .i64 x.f0) := (blk_cell F.out.2.2.2.1 0).trans rfl
    have x1 : w1.cell? ⟨w.heap.size + 1, 1, none⟩ = some (.int .i64 x.f1) := (blk_cell F.out.2.2.2.1 1).trans rfl
    have x2 : w1.cell? ⟨w.heap.size + 1, 2, none⟩ = some (.int .i64 x.f2) := (blk_cell F.out.2.2.2.1 2).trans rfl
    go_wp2_with fail
    refine (isBound_calls n (valid_n HVA.out) x _).mono ?_
    rintro e w2 ⟨rfl, h⟩
    replace F := Aside0.mk (And.intro (Kd.C_below F.out.1 h) (And.intro (Kd.C_below F.out.2.1 h) (And.intro (blk_below F.out.2.2.1 h) (And.intro (blk_below F.out.2.2.2.1 h) (below_step F.out.2.2.2.2 h)))))
    clear k0 x0 x1 x2 h
    cases hb : boundB n x with
    | false =>
      have HV := Aside0.mk (show checkChainB n l x ks = false by unfold checkChainB; rw [hb, Bool.and_false, Bool.false_and])
      clear hb
      go_wp2_with fail
      go_ret
      exact ⟨by rw [HV.out]; rfl, F.out.2.2.2.2⟩
    | true =>
      have HV := Aside0.mk (show checkChainB n l x ks = chainB l x ks by unfold checkChainB; rw [hb, HVA.out]; rfl)
      clear hb
      have k0 : w2.cell? ⟨w.heap.size, 0, none⟩ = some (.int .i64 n) := (blk_cell F.out.2.2.1 0).trans rfl
      have k1 : w2.cell? ⟨w.heap.size, 1, none⟩ = some (.slice A l.length c) := (blk_cell F.out.2.2.1 1).trans rfl
      have x0 : w2.cell? ⟨w.heap.size + 1, 0, none⟩ = some (.int .i64 x.f0) := (blk_cell F.out.2.2.2.1 0).trans rfl
      go_wp2_with fail
      have hch : chainB l x ks = ((followP l x.f0 ks).2.2 && ((followP l x.f0 ks).1 == x.f1) && decide ((followP l x.f0 ks).2.1 ≤ x.f2)) := rfl
      obtain ⟨r1, r2, r3, hr⟩ : ∃ r1 r2 r3, followP l x.f0 ks = (r1, r2, r3) := ⟨_, _, _, rfl⟩
      rw [hr] at hch
      have HCH := Aside0.mk (HV.out.trans hch)
      have HR := Aside0.mk hr
      clear hch hr
      refine (follow_calls n l (small_valid HVA.out) A c x.f0 ks K ck _ F.out.1 LN.out.1 F.out.2.1 LN.out.2.1 LN.out.2.2 r1 r2 r3 HR.out).mono ?_
      rintro e w3 ⟨rfl, h⟩
      replace F := Aside0.mk (And.intro (blk_below F.out.2.2.2.1 h) (below_step F.out.2.2.2.2 h))
      clear k0 k1 x0 h
      have x1 : w3.cell? ⟨w.heap.size + 1, 1, none⟩ = some (.int .i64 x.f1) := (blk_cell F.out.1 1).trans rfl
      have x2 : w3.cell? ⟨w.heap.size + 1, 2, none⟩ = some (.int .i64 x.f2) := (blk_cell F.out.1 2).trans rfl
      obtain ⟨b1, hb1⟩ : ∃ b, (r1 == x.f1) = b := ⟨_, rfl⟩
      obtain ⟨b2, hb2⟩ : ∃ b, decide (r2 ≤ x.f2) = b := ⟨_, rfl⟩
      have HE := Aside0.mk (show checkChainB n l x ks = (r3 && b1 && b2) by rw [HCH.out, hb1, hb2])
      cases r3 with
      | false =>
        clear hb1 hb2
        go_wp2_with fail
        go_ret
        exact ⟨by rw [HE.out]; rfl, F.out.2⟩
      | true =>
        cases b1 with
        | false =>
          go_wp2_with fail
          go_ret
          exact ⟨by rw [HE.out]; rfl, F.out.2⟩
        | true =>
          go_wp2_with fail
          go_ret
          exact ⟨by rw [HE.out]; rfl, F.out.2⟩
end Go.Proofs.Ytlokeimfmbgigaa.Bk

set_option linter.unusedVariables false
namespace Go.Proofs.Ytlokeimfmbgigaa.Qs
open Go Go.RowKit

/-- The worlds in which what lay in W lies as it lay. -/
def Sub (W : World) : Type := { w' : World // Below W.heap.size W w' }
instance (W : World) : Nonempty (Sub W) := ⟨⟨W, Below.refl _ _⟩⟩
theorem drew_below (W : World) : Below W.heap.size W { W with drawn := W.drawn + 1 } := ⟨rfl, rfl, rfl, Nat.le_refl _, fun _ _ => rfl⟩
theorem wp_region_sub {P : Program} {id : Nat} {Q : Exit → Act → World → Prop} {a : Act} {w : World} {l : List Oper} (hm : P.follows .mixedOrders = true) (hB : Region.lexB .any l.toArray = true)
    (h : wpQuiet P l.toArray (fun w' => ∃ x : Sub w, w' = x.val) (fun a' => ∀ w', (∃ x : Sub w, w' = x.val) → Q .normal a' w') l a) : (Code.region id l.toArray true).wp P Q a w :=
  wp_region_quiet (C := fun w' => ∃ x : Sub w, w' = x.val) hm hB ⟨⟨_, drew_below w⟩, rfl⟩ (by simpa using h)
theorem sub_cell {W : World} {p : Addr} {v : Value} (h : W.cell? p = some v) (x : Sub W) : x.val.cell? p = some v := Go.Proofs.YtlokeimfmbgigaaW.PrintWords.pw_cell_below x.2 h
theorem Calls.sub_of {P : Program} {f : FuncId} {args : Array Value} {W : World} {x : Sub W} {v : Value} (h : Calls P f args x.val fun e w' => e = .returned v ∧ Below x.val.heap.size x.val w') :
    Calls P f args x.val fun e w'' => e = .returned v ∧ ∃ y : Sub W, w'' = y.val :=
  h.mono fun _ w' ⟨he, hb⟩ => ⟨he, ⟨w', Go.Proofs.YtlokeimfmbgigaaW.PrintWords.below_step x.2 hb⟩, rfl⟩
theorem Calls.sub_of_same {P : Program} {f : FuncId} {args : Array Value} {W : World} {x : Sub W} {v : Value} (h : Calls P f args x.val fun e w' => e = .returned v ∧ w' = x.val) :
    Calls P f args x.val fun e w'' => e = .returned v ∧ ∃ y : Sub W, w'' = y.val :=
  h.mono fun _ w' ⟨he, hb⟩ => ⟨he, x, hb⟩
theorem sub_intro {W : World} {R : World → Prop} (h : ∀ w', Below W.heap.size W w' → R w') : ∀ w', (∃ x : Sub W, w' = x.val) → R w' := fun w' ⟨x, hx⟩ => h w' (hx ▸ x.2)
/-- A call of a function value of two arguments that leaves the world alone, at the operation. -/
theorem wp_call2 {P : Program} {o : Oper} {a : Act} {w : World} {K : Act → World → Prop} {Q : Exit → Act → World → Prop}
    (f x y : Operand) (ts : Array TypeId) (hop : o.op = Op.call { callee := Callee.value f, args := #[x, y], argTypes := ts }) (gf : Nat) (hf : a.eval f = .func (.func gf) #[] #[])
    (eg : ∀ args w, (callFunc gf args).run P w = .ok (.enter gf args) w) (vx vy : Value) (hx : a.eval x = vx) (hy : a.eval y = vy) (v : Value) (h : Calls P gf #[vx, vy] w fun e w' => e = .returned v ∧ w' = w) (hK : K (a.put o.dst v) w) :
    Oper.wp P o a w K Q := by
  unfold Oper.wp execOp
  simp only [hop, resolve, hf, hx, hy, Deferred.ofValue, Sem.run_bind, Sem.run_pure, Result.andThen_ok, List.map_toArray, List.map_cons, List.map_nil, invoke, List.append_toArray, List.nil_append, List.append_nil, List.cons_append, eg, Oper.upon]
  refine h.mono ?_
  rintro e w' ⟨rfl, rfl⟩
  exact hK
end Go.Proofs.Ytlokeimfmbgigaa.Qs

set_option linter.unusedVariables false
namespace Go.Proofs.Ytlokeimfmbgigaa.Bk
open Go.RowKit Go.Shelf Go.Proofs.YtlokeimfmbgigaaW.PrintWords Go.Proofs.YtlokeimfmbgigaaW.PrintLast Go.Proofs.YtlokeimfmbgigaaW.PrintMore
open Go.Proofs.Ytlokeimfmbgigaa.Ref Go.Proofs.Ytlokeimfmbgigaa.Pl Go.Proofs.Ytlokeimfmbgigaa.Qs

/-- Does a chain end where it begins, with a sum below 0? -/
def loopB (l : List S35) (ks : List Int) : Bool := (followP l (rd_T35 l (rd ks 0)).f0 ks).2.2 && ((followP l (rd_T35 l (rd ks 0)).f0 ks).1 == (rd_T35 l (rd ks 0)).f0) && decide ((followP l (rd_T35 l (rd ks 0)).f0 ks).2.1 < 0)
def checkCycleB (n : Int) (l : List S35) (ks : List Int) : Bool := validB n l && !decide (ks.length = 0) && decide (0 ≤ rd ks 0 ∧ rd ks 0 ≤ (l.length : Int) - 1) && loopB l ks
theorem valid_is {n : Int} {l : List S35} {A : Option Addr} {c : Nat} {w : World} (hl : Kd.C k35 w A l.length l) {b : Bool} (hb : validB n l = b) :
    Calls Try.prog 27 #[.agg #[.int .i64 n, .slice A l.length c]] w fun e w' => e = .returned (.bool b) ∧ Below w.heap.size w w' := hb ▸ valid_calls n l A c w hl
theorem isIn_is (n low high : Int) {b : Bool} (hb : decide (low ≤ n ∧ n ≤ high) = b) (w : World) :
    Calls Try.prog 44 #[.int .i64 n, .int .i64 low, .int .i64 high] w fun e w' => e = .returned (.bool b) ∧ Below w.heap.size w w' := hb ▸ isIn_calls n low high w
set_option maxHeartbeats 4000000 in
theorem checkCycle_calls (n : Int) (l : List S35) (A : Option Addr) (c : Nat) (ks : List Int) (K : Option Addr) (ck : Nat) (w : World) (hl : Kd.C k35 w A l.length l) (hc : l.length ≤ c) (hk : Kd.C (Kd.int .i64) w K ks.length ks) (hck : ks.length ≤ ck) (hks : ks.length ≤ 1000000) :
    Calls Try.prog 31 #[.agg #[.int .i64 n, .slice A l.length c], .slice K ks.length ck] w fun e w' => e = .returned (.bool (checkCycleB n l ks)) ∧ Below w.heap.size w w' := by
  have h1 := (Below.refl _ w).alloc (Nat.le_refl _) (.cells #[.int .i64 n, .slice A l.length c] 30)
  have F := Aside0.mk (And.intro (Kd.C_below hl h1) (And.intro (Kd.C_below hk h1) (And.intro (blk_new w (.cells #[.int .i64 n, .slice A l.length c] 30)) h1)))
  have LN := Aside0.mk (And.intro hc (And.intro hck hks))
  clear hl hk h1 hc hck hks
  cases hv : validB n l with
  | false =>
    have HV := Aside0.mk (show checkCycleB n l ks = false by unfold checkCycleB; rw [hv]; rfl)
    have HVA := Aside0.mk hv
    clear hv
    go_enter Try.func31, Try.ntmps31
    go_upto_region 1 with (fail)
    generalize w.alloc (.cells #[.int .i64 n, .slice A l.length c] 30) = W at *
    have d0 := sub_cell (W := W) (p := ⟨w.heap.size, 0, none⟩) (v := .int .i64 n) ((blk_cell F.out.2.2.1 0).trans rfl)
    have d1 := sub_cell (W := W) (p := ⟨w.heap.size, 1, none⟩) (v := .slice A l.length c) ((blk_cell F.out.2.2.1 1).trans rfl)
    refine wp_region_sub (by kernel_rfl) (by kernel_rfl) ?_
    repeat (go_big_quiet_step (first | (go_at_call 27; exact Calls.sub_of (valid_is (Kd.C_below F.out.1 (Subtype.property _)) HVA.out))))
    refine wpQuiet_nil ?_
    refine sub_intro fun w1 h => ?_
    go_wp2_with fail
    go_ret
    exact ⟨by rw [HV.out]; rfl, below_step F.out.2.2.2 h⟩
  | true =>
    have HVA := Aside0.mk hv
    by_cases h0 : ks.length = 0
    · have HV := Aside0.mk (show checkCycleB n l ks = false by unfold checkCycleB; rw [decide_eq_true h0, Bool.not_true, Bool.and_false]; rfl)
      have hz : ((ks.length : Int) == 0) = true := beq_iff_eq.mpr (by omega)
      clear hv h0
      go_enter Try.func31, Try.ntmps31
      go_upto_region 1 with (fail)
      generalize w.alloc (.cells #[.int .i64 n, .slice A l.length c] 30) = W at *
      have d0 := sub_cell (W := W) (p := ⟨w.heap.size, 0, none⟩) (v := .int .i64 n) ((blk_cell F.out.2.2.1 0).trans rfl)
      have d1 := sub_cell (W := W) (p := ⟨w.heap.size, 1, none⟩) (v := .slice A l.length c) ((blk_cell F.out.2.2.1 1).trans rfl)
      refine wp_region_sub (by kernel_rfl) (by kernel_rfl) ?_
      repeat (go_big_quiet_step (first | (go_at_call 27; exact Calls.sub_of (valid_is (Kd.C_below F.out.1 (Subtype.property _)) HVA.out))))
      refine wpQuiet_nil ?_
      refine sub_intro fun w1 h => ?_
      go_wp2_with fail
      go_ret
      exact ⟨by rw [HV.out]; rfl, below_step F.out.2.2.2 h⟩
    · have hz : ((ks.length : Int) == 0) = false := beq_eq_false_iff_ne.mpr (by omega)
      obtain ⟨ad, rfl, hk0⟩ := Kd.at_int F.out.2.1 0 (by omega) (by omega)
      have q1 := eq_true (show 0 < ks.length by omega)
      have q1' := eq_true (show (0 : Int) < (ks.length : Int) by omega)
      have hw1 : IntKind.i64.wrap ((l.length : Int) - 1) = (l.length : Int) - 1 := IntWalk.i64_in _ (by have := (small_valid hv).1; omega)
      replace hk0 : (w.alloc (.cells #[.int .i64 n, .slice A l.length c] 30)).cell? ad = some (.int .i64 (rd ks 0)) := by simpa [go_sem] using hk0
      have HK := Aside0.mk hk0
      cases hin : decide (0 ≤ rd ks 0 ∧ rd ks 0 ≤ (l.length : Int) - 1) with
      | false =>
        have HV := Aside0.mk (show checkCycleB n l ks = false by unfold checkCycleB; rw [hin, Bool.and_false]; rfl)
        have HIN := Aside0.mk hin
        clear hv h0 hin hk0
        generalize rd ks 0 = k0 at *
        go_enter Try.func31, Try.ntmps31
        go_upto_region 1 with (fail)
        generalize w.alloc (.cells #[.int .i64 n, .slice A l.length c] 30) = W at *
        have d0 := sub_cell (W := W) (p := ⟨w.heap.size, 0, none⟩) (v := .int .i64 n) ((blk_cell F.out.2.2.1 0).trans rfl)
        have d1 := sub_cell (W := W) (p := ⟨w.heap.size, 1, none⟩) (v := .slice A l.length c) ((blk_cell F.out.2.2.1 1).trans rfl)
        have d2 := sub_cell HK.out
        refine wp_region_sub (by kernel_rfl) (by kernel_rfl) ?_
        repeat (go_big_quiet_step (first | (go_at_call 27; exact Calls.sub_of (valid_is (Kd.C_below F.out.1 (Subtype.property _)) HVA.out)) | (go_at_call 44; exact Calls.sub_of (isIn_is _ _ _ HIN.out _))))
        refine wpQuiet_nil ?_
        refine sub_intro fun w1 h => ?_
        go_wp2_with fail
        go_ret
        exact ⟨by rw [HV.out]; rfl, below_step F.out.2.2.2 h⟩
      | true =>
        have HV := Aside0.mk (show checkCycleB n l ks = loopB l ks by unfold checkCycleB; rw [hin, hv, decide_eq_false h0]; rfl)
        have HIN := Aside0.mk hin
        have hb := of_decide_eq_true hin
        obtain ⟨ad2, hA, c0, _, _⟩ := at_T35 F.out.1 (rd ks 0) hb.1 (by omega)
        have q2 := eq_true hb.1
        have q3 := eq_true (show rd ks 0 < (l.length : Int) by omega)
        have hch : loopB l ks = ((followP l (rd_T35 l (rd ks 0)).f0 ks).2.2 && ((followP l (rd_T35 l (rd ks 0)).f0 ks).1 == (rd_T35 l (rd ks 0)).f0) && decide ((followP l (rd_T35 l (rd ks 0)).f0 ks).2.1 < 0)) := rfl
        obtain ⟨fr, hfr⟩ : ∃ fr, (rd_T35 l (rd ks 0)).f0 = fr := ⟨_, rfl⟩
        rw [hfr] at hch c0
        obtain ⟨r1, r2, r3, hr⟩ : ∃ r1 r2 r3, followP l fr ks = (r1, r2, r3) := ⟨_, _, _, rfl⟩
        rw [hr] at hch
        have HCH := Aside0.mk (HV.out.trans hch)
        have HR := Aside0.mk hr
        have HC0 := Aside0.mk c0
        have HS := Aside0.mk (small_valid hv)
        subst hA
        clear hv h0 hin hk0 hb hfr hch hr c0
        generalize rd ks 0 = k0 at *
        go_enter Try.func31, Try.ntmps31
        go_upto_region 1 with (fail)
        generalize w.alloc (.cells #[.int .i64 n, .slice (some ad2) l.length c] 30) = W at *
        have d0 := sub_cell (W := W) (p := ⟨w.heap.size, 0, none⟩) (v := .int .i64 n) ((blk_cell F.out.2.2.1 0).trans rfl)
        have d1 := sub_cell (W := W) (p := ⟨w.heap.size, 1, none⟩) (v := (.slice (some ad2) l.length c : Value)) ((blk_cell F.out.2.2.1 1).trans rfl)
        have d2 := sub_cell HK.out
        refine wp_region_sub (by kernel_rfl) (by kernel_rfl) ?_
        repeat (go_big_quiet_step (first | (go_at_call 27; exact Calls.sub_of (valid_is (Kd.C_below F.out.1 (Subtype.property _)) HVA.out)) | (go_at_call 44; exact Calls.sub_of (isIn_is _ _ _ HIN.out _))))
        refine wpQuiet_nil ?_
        refine sub_intro fun w1 h => ?_
        replace F := Aside0.mk (And.intro (Kd.C_below F.out.1 h) (And.intro (Kd.C_below F.out.2.1 h) (And.intro (blk_below F.out.2.2.1 h) (below_step F.out.2.2.2 h))))
        replace HK := Aside0.mk (pw_cell_below h HK.out)
        replace HC0 := Aside0.mk (pw_cell_below h HC0.out)
        clear d0 d1 d2 h
        go_upto_region 3 with (fail)
        have d1 := sub_cell (W := w1) (p := ⟨w.heap.size, 1, none⟩) (v := .slice (some ad2) l.length c) ((blk_cell F.out.2.2.1 1).trans rfl)
        have d2 := sub_cell HK.out
        have d3 := sub_cell HC0.out
        refine wp_region_sub (by kernel_rfl) (by kernel_rfl) ?_
        repeat (go_big_quiet_step (fail))
        refine wpQuiet_nil ?_
        refine sub_intro fun w2 h => ?_
        replace F := Aside0.mk (And.intro (Kd.C_below F.out.1 h) (And.intro (Kd.C_below F.out.2.1 h) (And.intro (blk_below F.out.2.2.1 h) (below_step F.out.2.2.2 h))))
        clear d1 d2 d3 h
        have k0 : w2.cell? ⟨w.heap.size, 0, none⟩ = some (.int .i64 n) := (blk_cell F.out.2.2.1 0).trans rfl
        have k1 : w2.cell? ⟨w.heap.size, 1, none⟩ = some (.slice (some ad2) l.length c) := (blk_cell F.out.2.2.1 1).trans rfl
        go_wp2_with fail
        refine (follow_calls n l HS.out (some ad2) c fr ks (some ad) ck _ F.out.1 LN.out.1 F.out.2.1 LN.out.2.1 LN.out.2.2 r1 r2 r3 HR.out).mono ?_
        rintro e w3 ⟨rfl, h⟩
        have HB := Aside0.mk (below_step F.out.2.2.2 h)
        clear k0 k1 h
        obtain ⟨b1, hb1⟩ : ∃ b, (r1 == fr) = b := ⟨_, rfl⟩
        obtain ⟨b2, hb2⟩ : ∃ b, decide (r2 < 0) = b := ⟨_, rfl⟩
        have HE := Aside0.mk (show checkCycleB n l ks = (r3 && b1 && b2) by rw [HCH.out, hb1, hb2])
        cases r3 with
        | false =>
          clear hb1 hb2
          go_wp2_with fail
          go_ret
          exact ⟨by rw [HE.out]; rfl, HB.out⟩
        | true =>
          cases b1 with
          | false =>
            go_wp2_with fail
            go_ret
            exact ⟨by rw [HE.out]; rfl, HB.out⟩
          | true =>
            go_wp2_with fail
            go_ret
            exact ⟨by rw [HE.out]; rfl, HB.out⟩
end Go.Proofs.Ytlokeimfmbgigaa.Bk
