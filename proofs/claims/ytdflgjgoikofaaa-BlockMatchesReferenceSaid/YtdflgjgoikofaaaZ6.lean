/- What the small functions of the law and of the reference return, in one form. -/
import Derived.Test.YtdflgjgoikofaaaZ5
import Derived.Test.YtdflgjgoikofaaaZ3
import Derived.Test.YtdflgjgoikofaaaZ4
set_option linter.unusedVariables false
set_option linter.unusedSimpArgs false
set_option linter.unusedVariables false
namespace Go.Proofs.Ytdflgjgoikofaaa.Bk
open Go.RowKit Go.Shelf Go.Proofs.YtdflgjgoikofaaaW.PrintWords Go.Proofs.YtdflgjgoikofaaaW.PrintLast Go.Proofs.YtdflgjgoikofaaaW.PrintMore
open Go.Proofs.Ytdflgjgoikofaaa.Ref Go.Proofs.Ytdflgjgoikofaaa.Pl Go.Proofs.Ytdflgjgoikofaaa.Rg

def pieceP (f l : Int) : Int × Int :=
  if pickP f 8 = 7 then (1666666 * pickP f 60, 1666666 * (pickP f 60 + 1 + pickP l (60 - pickP f 60)) + 40)
  else (pickP f 60, pickP f 60 + 1 + pickP l (60 - pickP f 60))
theorem pickR_calls (c n : Int) (w : World) (hc : I64 c) (hn : 0 < n) : Calls Try.prog 35 #[.int .i64 c, .int .i64 n] w fun e w' => e = .returned (.int .i64 (pickP c n)) ∧ ∃ q, w' = w.drewN q :=
  (dialtoneref13_pick.calls c n _ w (pick_f c n hc hn)).mono fun e w' h => ⟨h.1, h.2.out⟩

set_option maxHeartbeats 2000000 in
theorem piece_calls (f l : Int) (w : World) (hf : I64 f) (hl : I64 l) :
    Calls Try.prog 14 #[.int .i64 f, .int .i64 l] w fun e w' => e = .returned (.agg #[.int .i64 (pieceP f l).1, .int .i64 (pieceP f l).2]) ∧ Below w.heap.size w w' := by
  have HF := Aside0.mk hf
  have HL := Aside0.mk hl
  have r1 := pickP_range f 60 (by omega)
  have r2 := pickP_range l (60 - pickP f 60) (by omega)
  have hP : pieceP f l = if pickP f 8 = 7 then (1666666 * pickP f 60, 1666666 * (pickP f 60 + 1 + pickP l (60 - pickP f 60)) + 40) else (pickP f 60, pickP f 60 + 1 + pickP l (60 - pickP f 60)) := rfl
  have b0 := blk_new w (.cells #[.int .i64 0, .int .i64 0] 26)
  have hB := (Below.refl _ w).alloc (Nat.le_refl _) (.cells #[.int .i64 0, .int .i64 0] 26)
  have P1 := fun w' => pickR_calls f 60 w' hf (by omega)
  have P2 := fun w' => pickR_calls l (60 - pickP f 60) w' hl (by omega)
  have P3 := fun w' => pickR_calls f 8 w' hf (by omega)
  generalize pickP f 60 = a at *
  generalize pickP l (60 - a) = b at *
  generalize pickP f 8 = k at *
  have HP := Aside0.mk hP
  have R1 := Aside0.mk r1
  have R2 := Aside0.mk r2
  clear hf hl hP
  go_enter Try.func14, Try.ntmps14
  go_wp2_with fail
  refine (P1 _).mono ?_
  rintro e w1 ⟨rfl, q1, rfl⟩
  go_wp2_with fail
  refine (P2 _).mono ?_
  rintro e w2 ⟨rfl, q2, rfl⟩
  go_wp2_with fail
  refine (P3 _).mono ?_
  rintro e w3 ⟨rfl, q3, rfl⟩
  by_cases hk : k = 7
  · have hkb : (k == 7) = true := beq_iff_eq.mpr hk
    have HK := Aside0.mk hk
    clear hk
    go_wp2_with fail
    refine bodyPost_ret (results_cell_row rfl _ _ w.heap.size 26 #[.int .i64 (1666666 * a), .int .i64 (1666666 * (a + 1 + b) + 40)] (0, 0) _ rfl (blk_put (cs := #[.int .i64 (1666666 * a), .int .i64 0]) (blk_put (cs := #[.int .i64 0, .int .i64 0]) (blk_far (blk_far (blk_drewN (blk_alloc (blk_drewN b0 _) _) _) (by simp) _) (by simp) _) 0 _ rfl) 1 _ rfl) Try.underlying26 rfl (by kernel_rfl)) rfl ?_
    refine ⟨by rw [HP.out, if_pos HK.out], (((((pw_below_drewN ((pw_below_drewN hB _).alloc (by simp) _) _).setCell (p := ⟨w.heap.size + 1, 0, none⟩) (by simp) _).setCell (p := ⟨w.heap.size + 1, 1, none⟩) (by simp) _).setCell (p := ⟨w.heap.size, 0, none⟩) (by simp) _).setCell (p := ⟨w.heap.size, 1, none⟩) (by simp) _)⟩
  · have hkb : (k == 7) = false := beq_eq_false_iff_ne.mpr hk
    have HK := Aside0.mk hk
    clear hk
    go_wp2_with fail
    refine bodyPost_ret (results_cell_row rfl _ _ w.heap.size 26 #[.int .i64 (a), .int .i64 (a + 1 + b)] (0, 0) _ rfl (blk_put (cs := #[.int .i64 (a), .int .i64 0]) (blk_put (cs := #[.int .i64 0, .int .i64 0]) (blk_drewN (blk_alloc (blk_drewN b0 _) _) _) 0 _ rfl) 1 _ rfl) Try.underlying26 rfl (by kernel_rfl)) rfl ?_
    refine ⟨by rw [HP.out, if_neg HK.out], (((pw_below_drewN ((pw_below_drewN hB _).alloc (by simp) _) _).setCell (p := ⟨w.heap.size, 0, none⟩) (by simp) _).setCell (p := ⟨w.heap.size, 1, none⟩) (by simp) _)⟩
end Go.Proofs.Ytdflgjgoikofaaa.Bk

set_option linter.unusedVariables false
namespace Go.Proofs.Ytdflgjgoikofaaa.Bk
open Go.RowKit Go.Shelf Go.Proofs.YtdflgjgoikofaaaW.PrintWords Go.Proofs.YtdflgjgoikofaaaW.PrintLast Go.Proofs.YtdflgjgoikofaaaW.PrintMore
open Go.Proofs.Ytdflgjgoikofaaa.Ref Go.Proofs.Ytdflgjgoikofaaa.Pl Go.Proofs.Ytdflgjgoikofaaa.Rg
attribute [local go_sem high] run_min_min run_max_max

def findsP (l : List S53) (n want : Int) : Bool := ((findP l n).2 == decide (0 ≤ want)) && ((findP l n).1 == max want 0)
set_option maxHeartbeats 1000000 in
theorem finds_calls (l : List S53) (A : Option Addr) (c : Nat) (n want : Int) (w : World) (hl : Kd.C k53 w A l.length l) (hc : l.length ≤ c) :
    Calls Try.prog 34 #[.slice A l.length c, .int .i64 n, .int .i64 want] w fun e w' => e = .returned (.bool (findsP l n want)) ∧ Below w.heap.size w w' := by
  have HL := Aside0.mk hl
  have HC := Aside0.mk hc
  clear hl hc
  have hP : findsP l n want = (((findP l n).2 == decide (0 ≤ want)) && ((findP l n).1 == max want 0)) := rfl
  go_enter Try.func34, Try.ntmps34
  go_wp2_with fail
  refine (find_calls l A c n w HL.out).mono ?_
  rintro e w1 ⟨rfl, hb⟩
  have HB := Aside0.mk hb
  clear hb
  generalize findP l n = r at hP ⊢
  obtain ⟨v, is⟩ := r
  have HP := Aside0.mk hP
  clear hP
  cases h1 : (is == decide (0 ≤ want)) with
  | true =>
    have HP2 := Aside0.mk (HP.out.trans (by rw [h1, Bool.true_and]))
    go_wp2_with fail
    go_ret
    exact ⟨by rw [HP2.out]; rfl, HB.out⟩
  | false =>
    have HP2 := Aside0.mk (HP.out.trans (by rw [h1, Bool.false_and]))
    go_wp2_with fail
    go_ret
    exact ⟨by rw [HP2.out]; rfl, HB.out⟩

def holderL (l : List S53) (n : Int) : Int := if (findP l n).2 then (findP l n).1 else -1
set_option maxHeartbeats 1000000 in
theorem holderL_calls (l : List S53) (A : Option Addr) (c : Nat) (n : Int) (w : World) (hl : Kd.C k53 w A l.length l) (hc : l.length ≤ c) :
    Calls Try.prog 24 #[.slice A l.length c, .int .i64 n] w fun e w' => e = .returned (.int .i64 (holderL l n)) ∧ Below w.heap.size w w' := by
  have HL := Aside0.mk hl
  have HC := Aside0.mk hc
  clear hl hc
  have hP : holderL l n = if (findP l n).2 then (findP l n).1 else -1 := rfl
  go_enter Try.func24, Try.ntmps24
  go_wp2_with fail
  refine (find_calls l A c n w HL.out).mono ?_
  rintro e w1 ⟨rfl, hb⟩
  have HB := Aside0.mk hb
  clear hb
  generalize findP l n = r at hP ⊢
  obtain ⟨v, is⟩ := r
  have HP := Aside0.mk hP
  clear hP
  cases is with
  | true =>
    go_wp2_with fail
    go_ret
    exact ⟨by rw [HP.out]; rfl, HB.out⟩
  | false =>
    go_wp2_with fail
    go_ret
    exact ⟨by rw [HP.out]; rfl, HB.out⟩

def inP (r : S26) (n : Int) : Bool := decide (r.f0 ≤ n) && decide (n < r.f1)
set_option maxHeartbeats 1000000 in
theorem in_calls (f t n : Int) (w : World) :
    Calls Try.prog 25 #[.agg #[.int .i64 f, .int .i64 t], .int .i64 n] w fun e w' => e = .returned (.bool (inP ⟨f, t⟩ n)) ∧ Below w.heap.size w w' := by
  have hb := (Below.refl _ w).alloc (Nat.le_refl _) (.cells #[.int .i64 f, .int .i64 t] 26)
  have HB := Aside0.mk hb
  clear hb
  have hP : inP ⟨f, t⟩ n = (decide (f ≤ n) && decide (n < t)) := rfl
  have HP := Aside0.mk hP
  clear hP
  by_cases h : f ≤ n
  · have h1 : decide (f ≤ n) = true := decide_eq_true h
    have HP2 := Aside0.mk (HP.out.trans (by rw [h1, Bool.true_and]))
    clear h
    go_enter Try.func25, Try.ntmps25
    go_wp2_with fail
    go_ret
    exact ⟨by rw [HP2.out]; rfl, HB.out⟩
  · have h1 : decide (f ≤ n) = false := decide_eq_false h
    have HP2 := Aside0.mk (HP.out.trans (by rw [h1, Bool.false_and]))
    clear h
    go_enter Try.func25, Try.ntmps25
    go_wp2_with fail
    go_ret
    exact ⟨by rw [HP2.out]; rfl, HB.out⟩

def totalF (l : List S53) : Nat → Int
  | 0 => 0
  | k + 1 => totalF l k + cntP l k
def totalP (l : List S53) : Int := totalF l 8
theorem cntP_bound (l : List S53) (c : Int) : 0 ≤ cntP l c ∧ cntP l c ≤ 100000000 * l.length := by
  unfold cntP
  split
  · rename_i hv
    have := cnt_bound c l hv l.length (Nat.le_refl _)
    simpa using this
  · omega
theorem cntP_cap (l : List S53) (c : Int) : 0 ≤ cntP l c ∧ cntP l c ≤ 100000000000 := by
  have h := cntP_bound l c
  by_cases hv : validP l = true
  · have := validP_len hv; omega
  · unfold cntP; rw [if_neg hv]; omega
theorem totalF_bound (l : List S53) : ∀ k, 0 ≤ totalF l k ∧ totalF l k ≤ 100000000000 * k := by
  intro k
  induction k with
  | zero => simp [totalF]
  | succ k ih => have := cntP_cap l k; simp only [totalF]; omega
set_option maxHeartbeats 1000000 in
theorem total_calls (l : List S53) (A : Option Addr) (c : Nat) (w : World) (hl : Kd.C k53 w A l.length l) (hc : l.length ≤ c) :
    Calls Try.prog 29 #[.slice A l.length c] w fun e w' => e = .returned (.int .i64 (totalP l)) ∧ Below w.heap.size w w' := by
  have HL := Aside0.mk hl
  have HC := Aside0.mk hc
  clear hl hc
  go_enter Try.func29, Try.ntmps29
  go_wp2_with fail
  go_loopg [3, 4] 8 (fun kq v3 v4 wr => ∃ (i : Nat) (s : Int), v4 = .int .i64 (i : Int) ∧ v3 = .int .i64 s ∧ Aside0 (s = totalF l i) ∧ Aside0 (i + kq = 8) ∧ Aside0 (Below w.heap.size w wr))
  case atStart => exact ⟨0, 0, rfl, rfl, ⟨rfl⟩, ⟨rfl⟩, ⟨Below.refl _ _⟩⟩
  case round =>
    obtain ⟨i, s, rfl, rfl, HS, HK, HB⟩ := hrel
    by_cases hi : i ≤ 7
    · have hib : decide ((i : Int) ≤ 7) = true := decide_eq_true (by omega)
      have h1 := totalF_bound l i
      have h2 := cntP_cap l i
      rw [← HS.out] at h1
      go_wp2_with fail
      refine (count_calls l A c i wr (Kd.C_below HL.out HB.out)).mono ?_
      rintro e w1 ⟨rfl, hb⟩
      have HB1 := Aside0.mk (below_step HB.out hb)
      clear hb
      have HT := Aside0.mk (show totalF l (i + 1) = totalF l i + cntP l i from rfl)
      generalize cntP l i = x at h2 HT ⊢
      go_wp2_with fail
      go_roundg (8 - (i + 1))
      case measure => have := HK.out; omega
      case rel => exact ⟨i + 1, s + x, by go_num, by go_num, ⟨by rw [HT.out, HS.out]⟩, ⟨by have := HK.out; omega⟩, HB1⟩
    · have hib : decide ((i : Int) ≤ 7) = false := decide_eq_false (by omega)
      have hi8 : i = 8 := by have := HK.out; omega
      have HI := Aside0.mk hi8
      have i9 : i ≤ 8 := by omega
      clear hi hi8
      go_wp2_with fail
      go_ret
      exact ⟨by rw [HS.out, HI.out]; rfl, HB.out⟩
end Go.Proofs.Ytdflgjgoikofaaa.Bk

set_option linter.unusedVariables false
namespace Go.Proofs.Ytdflgjgoikofaaa.Bk
open Go.RowKit Go.Shelf Go.Proofs.YtdflgjgoikofaaaW.PrintWords Go.Proofs.YtdflgjgoikofaaaW.PrintLast Go.Proofs.YtdflgjgoikofaaaW.PrintMore
open Go.Proofs.Ytdflgjgoikofaaa.Ref Go.Proofs.Ytdflgjgoikofaaa.Pl Go.Proofs.Ytdflgjgoikofaaa.Rg

/-- A row of triples of whole numbers that is read. -/
def Trip (w : World) (A : Option Addr) (xs : List (Int × Int × Int)) : Prop :=
  (∀ x ∈ xs, I64 x.1 ∧ I64 x.2.1 ∧ I64 x.2.2) ∧ (0 < xs.length → ∃ ad, A = some ad ∧ ∀ i, i < xs.length → w.cell? (ad.add (i * 3)) = some (.int .i64 (xs.getD i (0, 0, 0)).1) ∧ w.cell? ⟨(ad.add (i * 3)).block, (ad.add (i * 3)).off + 1, none⟩ = some (.int .i64 (xs.getD i (0, 0, 0)).2.1) ∧ w.cell? ⟨(ad.add (i * 3)).block, (ad.add (i * 3)).off + 2, none⟩ = some (.int .i64 (xs.getD i (0, 0, 0)).2.2))
def madeS (out : List S53) (x : Int × Int × Int) : List S53 :=
  if pickP x.2.2 5 < 4 then (giveR out (pieceP x.1 x.2.1).1 (pieceP x.1 x.2.1).2 (2 * pickP x.2.2 5)).1 else (takeR out (pieceP x.1 x.2.1).1 (pieceP x.1 x.2.1).2).1
def madeP (xs : List (Int × Int × Int)) : List S53 := (xs.take 12).foldl madeS []

theorem finR_len (out : List S53) : (finR out).1.length ≤ 40 := by
  unfold finR
  split
  · rename_i h; have := validP_len h; simpa using this
  · simp
theorem giveR_len (l : List S53) (f t k : Int) : (giveR l f t k).1.length ≤ 40 := by
  unfold giveR
  split
  · exact finR_len _
  · simp [errR]
theorem takeR_len (l : List S53) (f t : Int) : (takeR l f t).1.length ≤ 40 := by
  unfold takeR
  split
  · exact finR_len _
  · simp [errR]
theorem madeS_len (l : List S53) (x : Int × Int × Int) : (madeS l x).length ≤ 40 := by
  unfold madeS
  split
  · exact giveR_len _ _ _ _
  · exact takeR_len _ _ _
theorem foldS_len (xs : List (Int × Int × Int)) : ∀ l : List S53, l.length ≤ 40 → (xs.foldl madeS l).length ≤ 40 := by
  induction xs with
  | nil => intro l h; exact h
  | cons x xs ih => intro l _; exact ih _ (madeS_len l x)
theorem madeP_take (xs : List (Int × Int × Int)) (i : Nat) (hi : i < xs.length) : (xs.take (i + 1)).foldl madeS [] = madeS ((xs.take i).foldl madeS []) (xs.getD i (0, 0, 0)) := by
  rw [List.take_succ_eq_append_getElem hi, List.foldl_append, List.getD_eq_getElem?_getD, List.getElem?_eq_getElem hi]
  rfl

theorem madeS_pos (l : List S53) (x0 x1 x2 : Int) (p : Int × Int) (hp : pieceP x0 x1 = p) (h : pickP x2 5 < 4) : madeS l (x0, x1, x2) = (giveR l p.1 p.2 (2 * pickP x2 5)).1 := by subst hp; unfold madeS; rw [if_pos h]
theorem madeS_neg (l : List S53) (x0 x1 x2 : Int) (p : Int × Int) (hp : pieceP x0 x1 = p) (h : ¬ pickP x2 5 < 4) : madeS l (x0, x1, x2) = (takeR l p.1 p.2).1 := by subst hp; unfold madeS; rw [if_neg h]
theorem cell_far2 {w : World} {g : Nat} {p : Addr} {v : Value} (h : w.cell? p = some v) (hne : p.block < g) (u1 u2 : Value) : ((w.setCell ⟨g, 0, none⟩ u1).setCell ⟨g, 1, none⟩ u2).cell? p = some v := by
  have h0 : ∀ j, (⟨g, j, none⟩ : Addr) ≠ p := fun j e => by rw [← e] at hne; exact Nat.lt_irrefl _ hne
  exact (World.cell?_setCell_other _ _ _ _ (h0 1)).trans ((World.cell?_setCell_other _ _ _ _ (h0 0)).trans h)
theorem cell_alloc_far {w : World} {p : Addr} {v : Value} (h : w.cell? p = some v) (o : Obj) : (w.alloc o).cell? p = some v := pw_cell_below ((Below.refl _ w).alloc (Nat.le_refl _) o) h
theorem cell_drew_far {w : World} {p : Addr} {v : Value} (h : w.cell? p = some v) : w.drew.cell? p = some v := h

set_option maxHeartbeats 2000000 in
theorem made_calls (xs : List (Int × Int × Int)) (A : Option Addr) (c : Nat) (w : World) (hx : Trip w A xs) (hc : xs.length ≤ c) (hn : xs.length ≤ 9223372036854775807) :
    Calls Try.prog 12 #[.slice A xs.length c] w fun e w' => ∃ A' c', e = .returned (.slice A' (madeP xs).length c') ∧ Kd.C k53 w' A' (madeP xs).length (madeP xs) ∧ (madeP xs).length ≤ c' ∧ Below w.heap.size w w' := by
  have HX := Aside0.mk hx
  have HN := Aside0.mk hn
  clear hx hn hc
  go_enter Try.func12, Try.ntmps12
  go_wp2_with fail
  go_loopg [3, 4] (xs.length + 1) (fun kq v3 v4 wr => ∃ (i m c : Nat) (A : Option Addr), v4 = .int .i64 (i : Int) ∧ v3 = .slice A m c ∧ Aside0 (i + kq = xs.length + 1) ∧ Aside0 (i ≤ 12) ∧ Aside0 (m = ((xs.take i).foldl madeS []).length ∧ m ≤ c ∧ Kd.C k53 wr A m ((xs.take i).foldl madeS [])) ∧ Aside0 (Below w.heap.size w wr))
  case atStart => exact ⟨0, 0, 0, none, rfl, rfl, ⟨by omega⟩, ⟨by omega⟩, ⟨rfl, by omega, Kd.C_nil _ _⟩, ⟨Below.refl _ _⟩⟩
  case round =>
    obtain ⟨i, m, c2, A2, rfl, rfl, HK, HI, HM, HB⟩ := hrel
    have i13 : i ≤ 12 := HI.out
    by_cases hi : i < xs.length
    · have hib : decide ((i : Int) < (xs.length : Int)) = true := decide_eq_true (by omega)
      by_cases h12 : i < 12
      · have h12b : decide ((i : Int) < 12) = true := decide_eq_true (by omega)
        have H12 := Aside0.mk h12
        obtain ⟨ad, rfl, hce⟩ := HX.out.2 (by omega)
        obtain ⟨e0, e1, e2⟩ := hce i hi
        have hI := HX.out.1 (xs.getD i (0, 0, 0)) (by rw [List.getD_eq_getElem?_getD, List.getElem?_eq_getElem hi]; exact List.getElem_mem hi)
        have hsn := madeP_take xs i hi
        generalize xs.getD i (0, 0, 0) = x at e0 e1 e2 hI hsn
        obtain ⟨x0, x1, x2⟩ := x
        replace e0 : wr.cell? (ad.add (i * 3)) = some (.int .i64 x0) := pw_cell_below HB.out e0
        replace e1 : wr.cell? ⟨(ad.add (i * 3)).block, (ad.add (i * 3)).off + 1, none⟩ = some (.int .i64 x1) := pw_cell_below HB.out e1
        replace e2 : w.cell? ⟨(ad.add (i * 3)).block, (ad.add (i * 3)).off + 2, none⟩ = some (.int .i64 x2) := e2
        have q1 := eq_true (show (i : Int) < (xs.length : Int) by omega)
        have q2 := eq_true (show (0 : Int) ≤ (i : Int) by omega)
        have HIX := Aside0.mk hi
        have HI64 := Aside0.mk hI
        have HSN := Aside0.mk hsn
        have HC := Aside0.mk (fun W (hW : Below w.heap.size w W) => pw_cell_below hW e2)
        clear hi h12 hI hsn hce
        generalize hp : pieceP x0 x1 = p at HSN
        have HP := Aside0.mk hp
        clear hp
        go_upto_region 5 with (fail)
        go_cut [5] (fun s5 w' => ∃ g, s5 = .pointer (some ⟨g, 0, none⟩) ∧ Aside0 (w'.heap[g]? = some (.cells #[.int .i64 p.1, .int .i64 p.2] 26 (0, 0))) ∧ Aside0 (Below wr.heap.size wr w'))
        case first =>
          go_region_held3 (fun w' => w'.cell? (ad.add (i * 3)) = some (.int .i64 x0) ∧ w'.cell? ⟨(ad.add (i * 3)).block, (ad.add (i * 3)).off + 1, none⟩ = some (.int .i64 x1)) (first | go_keep | exact ⟨cell_far2 d0 (World.block_lt_of_cell? wr _ e0) _ _, cell_far2 d1 (World.block_lt_of_cell? wr _ e1) _ _⟩ | exact ⟨cell_far2 (cell_alloc_far d0 _) (World.block_lt_of_cell? _ _ d0) _ _, cell_far2 (cell_alloc_far d1 _) (World.block_lt_of_cell? _ _ d1) _ _⟩ | exact ⟨cell_far2 (cell_drew_far (cell_alloc_far d0 _)) (World.block_lt_of_cell? _ _ d0) _ _, cell_far2 (cell_drew_far (cell_alloc_far d1 _)) (World.block_lt_of_cell? _ _ d1) _ _⟩)
            (first | (go_at_call 14; refine (piece_calls x0 x1 _ HI64.out.1 HI64.out.2.1).mono ?_; rintro e w1 ⟨rfl, h1⟩; rw [HP.out]; have H1 : Aside0 (Below wr.heap.size wr w1) := (by first | exact ⟨below_step (below_drew (Below.refl _ _)) h1⟩ | exact ⟨below_step (below_drew ((Below.refl _ wr).alloc (Nat.le_refl _) _)) h1⟩); have d0 : w1.cell? (ad.add (i * 3)) = some (.int .i64 x0) := pw_cell_below H1.out e0; have d1 : w1.cell? ⟨(ad.add (i * 3)).block, (ad.add (i * 3)).off + 1, none⟩ = some (.int .i64 x1) := pw_cell_below H1.out e1; (try (have bb := blk_below (blk_drew (blk_new wr (.cells #[.int .i64 0, .int .i64 0] 26))) h1; have b0 := (blk_cell bb 0).trans rfl; have b1 := (blk_cell bb 1).trans rfl; have f0 := blk_frozen bb 0; have f1 := blk_frozen bb 1; have BB := Aside0.mk bb; clear bb)); clear h1))
          · go_wp2_with fail
            go_meet
            case rel => exact ⟨w1.heap.size, rfl, ⟨blk_new w1 _⟩, ⟨H1.out.alloc H1.out.size _⟩⟩
          · go_wp2_with fail
            go_meet
            case rel => exact ⟨wr.heap.size, rfl, ⟨blk_put (blk_put BB.out 0 _ rfl) 1 _ rfl⟩, ⟨(H1.out.setCell (p := ⟨wr.heap.size, 0, none⟩) (Nat.le_refl _) _).setCell (p := ⟨wr.heap.size, 1, none⟩) (Nat.le_refl _) _⟩⟩
        case rest =>
          obtain ⟨g, rfl, HG, HBr⟩ := hcut
          have HBg := Aside0.mk (below_step HB.out HBr.out)
          have g2 : wc.cell? ⟨(ad.add (i * 3)).block, (ad.add (i * 3)).off + 2, none⟩ = some (.int .i64 x2) := HC.out wc HBg.out
          have b0 : wc.cell? ⟨g, 0, none⟩ = some (.int .i64 p.1) := (blk_cell HG.out 0).trans rfl
          have b1 : wc.cell? ⟨g, 1, none⟩ = some (.int .i64 p.2) := (blk_cell HG.out 1).trans rfl
          clear e0 e1 e2
          have hk := pickP_range x2 5 (by omega)
          go_wp2_with fail
          refine (pickR_calls x2 5 _ HI64.out.2.2 (by omega)).mono ?_
          rintro e w1 ⟨rfl, q, rfl⟩
          have hlen : m ≤ 40 := by have := HM.out.1; have := foldS_len (xs.take i) [] (by simp); omega
          by_cases hk4 : pickP x2 5 < 4
          · have hk4b : decide (pickP x2 5 < 4) = true := decide_eq_true hk4
            have HSN2 := Aside0.mk (HSN.out.trans (madeS_pos _ x0 x1 x2 p HP.out hk4))
            have HP5 := Aside0.mk hk
            clear hk4
            generalize pickP x2 5 = kk at *
            go_wp2_with fail
            have hm := HM.out.1
            subst hm
            refine (giveR_calls _ A2 c2 p.1 p.2 (2 * kk) _ (Kd.C_below HM.out.2.2 (pw_below_drewN HBr.out q)) HM.out.2.1 (by omega)).mono ?_
            intro e w5 h5
            obtain ⟨v, rfl, hR, hb5⟩ := h5.later (pw_below_drewN HBg.out q)
            obtain ⟨A5, c5, rfl, hc5, hC5⟩ := Kd.R_reads hR
            have HC5 := Aside0.mk hC5
            have HCC5 := Aside0.mk hc5
            have HB5 := Aside0.mk hb5
            clear h5 hR hb5 hC5 hc5 g2 b0 b1 hlen
            go_wp2_with fail
            go_roundg (xs.length - i)
            case measure => have := HK.out; have := HIX.out; omega
            case rel => exact ⟨i + 1, _, c5, A5, by go_num, rfl, ⟨by have := HK.out; have := HIX.out; omega⟩, ⟨by have := H12.out; omega⟩, ⟨by rw [HSN2.out], HCC5.out, by rw [HSN2.out]; exact HC5.out⟩, HB5⟩
          · have hk4b : decide (pickP x2 5 < 4) = false := decide_eq_false hk4
            have HSN2 := Aside0.mk (HSN.out.trans (madeS_neg _ x0 x1 x2 p HP.out hk4))
            have HP5 := Aside0.mk hk
            clear hk4
            generalize pickP x2 5 = kk at *
            go_wp2_with fail
            have hm := HM.out.1
            subst hm
            refine (takeR_calls _ A2 c2 p.1 p.2 _ (Kd.C_below HM.out.2.2 (pw_below_drewN HBr.out q)) HM.out.2.1 (by omega)).mono ?_
            intro e w5 h5
            obtain ⟨v, rfl, hR, hb5⟩ := h5.later (pw_below_drewN HBg.out q)
            obtain ⟨A5, c5, rfl, hc5, hC5⟩ := Kd.R_reads hR
            have HC5 := Aside0.mk hC5
            have HCC5 := Aside0.mk hc5
            have HB5 := Aside0.mk hb5
            clear h5 hR hb5 hC5 hc5 g2 b0 b1 hlen
            go_wp2_with fail
            go_roundg (xs.length - i)
            case measure => have := HK.out; have := HIX.out; omega
            case rel => exact ⟨i + 1, _, c5, A5, by go_num, rfl, ⟨by have := HK.out; have := HIX.out; omega⟩, ⟨by have := H12.out; omega⟩, ⟨by rw [HSN2.out], HCC5.out, by rw [HSN2.out]; exact HC5.out⟩, HB5⟩
      · have h12b : decide ((i : Int) < 12) = false := decide_eq_false (by omega)
        have hfin : (xs.take i).foldl madeS [] = madeP xs := by unfold madeP; rw [show i = 12 by have := HI.out; omega]
        have HF := Aside0.mk hfin
        have q1 := eq_true (show (i : Int) < (xs.length : Int) by omega)
        clear hi h12 hfin
        go_wp2_with fail
        go_ret
        exact ⟨A2, c2, by rw [← HF.out, ← HM.out.1]; rfl, by rw [← HF.out, ← HM.out.1]; exact HM.out.2.2, by rw [← HF.out, ← HM.out.1]; exact HM.out.2.1, HB.out⟩
    · have hib : decide ((i : Int) < (xs.length : Int)) = false := decide_eq_false (by omega)
      have hfin : (xs.take i).foldl madeS [] = madeP xs := by unfold madeP; rw [List.take_of_length_le (by omega), List.take_of_length_le (by have := HI.out; omega)]
      have HF := Aside0.mk hfin
      have q1 := eq_false (show ¬ (i : Int) < (xs.length : Int) by omega)
      clear hi hfin
      go_wp2_with fail
      go_ret
      exact ⟨A2, c2, by rw [← HF.out, ← HM.out.1]; rfl, by rw [← HF.out, ← HM.out.1]; exact HM.out.2.2, by rw [← HF.out, ← HM.out.1]; exact HM.out.2.1, HB.out⟩
end Go.Proofs.Ytdflgjgoikofaaa.Bk

set_option linter.unusedVariables false
namespace Go.Proofs.Ytdflgjgoikofaaa.Bk
open Go.RowKit Go.Shelf Go.Proofs.YtdflgjgoikofaaaW.PrintWords Go.Proofs.YtdflgjgoikofaaaW.PrintLast Go.Proofs.YtdflgjgoikofaaaW.PrintMore
open Go.Proofs.Ytdflgjgoikofaaa.Ref Go.Proofs.Ytdflgjgoikofaaa.Pl Go.Proofs.Ytdflgjgoikofaaa.Rg

/-- A value that is a slice of blocks. -/
def Rw (w : World) (l : List S53) (v : Value) : Prop := ∃ A c, v = .slice A l.length c ∧ l.length ≤ c ∧ Kd.C k53 w A l.length l
/-- A value that is a slice of ranges. -/
def Rw2 (w : World) (l : List S26) (v : Value) : Prop := ∃ A c, v = .slice A l.length c ∧ l.length ≤ c ∧ Kd.C k26 w A l.length l
theorem Rw.below {w w' : World} {l : List S53} {v : Value} (h : Rw w l v) (hb : Below w.heap.size w w') : Rw w' l v := by
  obtain ⟨A, c, rfl, h1, h2⟩ := h
  exact ⟨A, c, rfl, h1, Kd.C_below h2 hb⟩
theorem Rw2.below {w w' : World} {l : List S26} {v : Value} (h : Rw2 w l v) (hb : Below w.heap.size w w') : Rw2 w' l v := by
  obtain ⟨A, c, rfl, h1, h2⟩ := h
  exact ⟨A, c, rfl, h1, Kd.C_below h2 hb⟩
theorem Rw_block (w : World) (l : List S53) (hl : l.length ≤ 1000) (hpos : 0 < l.length) : Rw (w.alloc (.cells (flat l).toArray 53)) l (.slice (some ⟨w.heap.size, 0, none⟩) l.length l.length) := by
  have hown : (w.alloc (.cells (flat l).toArray 53)).ownsRow 0 53 3 (.slice (some ⟨w.heap.size, 0, none⟩) l.length l.length) l.length (flat l) :=
    ⟨flat_len l, .inr ⟨w.heap.size, l.length, (flat l).toArray, rfl, by omega, blk_new w _, Nat.le_refl _, by unfold maxLen; omega, by simp [flat_len], by simp [← flat_len]⟩⟩
  obtain ⟨h1, h2, h3⟩ := Kd.R_reads' (R_of_flat hown)
  exact ⟨_, _, rfl, h2, h3⟩
theorem Rw2_block (w : World) (l : List S26) (hl : l.length ≤ 1000) (hpos : 0 < l.length) : Rw2 (w.alloc (.cells (flat2 l).toArray 26)) l (.slice (some ⟨w.heap.size, 0, none⟩) l.length l.length) := by
  have hown : (w.alloc (.cells (flat2 l).toArray 26)).ownsRow 0 26 2 (.slice (some ⟨w.heap.size, 0, none⟩) l.length l.length) l.length (flat2 l) :=
    ⟨flat2_len l, .inr ⟨w.heap.size, l.length, (flat2 l).toArray, rfl, by omega, blk_new w _, Nat.le_refl _, by unfold maxLen; omega, by simp [flat2_len], by simp [← flat2_len]⟩⟩
  obtain ⟨h1, h2, h3⟩ := Kd.R_reads' (R_of_flat2 hown)
  exact ⟨_, _, rfl, h2, h3⟩

def MapV (l : List S53) (k : Int) (w : World) (e : Ending) (w' : World) : Prop := ∃ v : Value, e = .returned (.tuple #[v, .int .i64 k]) ∧ Rw w' l v ∧ Below w.heap.size w w'
def RngV (l : List S26) (k : Int) (w : World) (e : Ending) (w' : World) : Prop := ∃ v : Value, e = .returned (.tuple #[v, .int .i64 k]) ∧ Rw2 w' l v ∧ Below w.heap.size w w'
theorem MapV.of {r : List S53 × Int} {w w' : World} {e : Ending} (h : MapRes r w e w') : MapV r.1 r.2 w e w' := by
  obtain ⟨v, rfl, hR, hb⟩ := h
  obtain ⟨A, c, rfl, hc, hC⟩ := Kd.R_reads hR
  exact ⟨_, rfl, ⟨A, c, rfl, hc, hC⟩, hb⟩
theorem RngV.of {r : List S26 × Int} {w w' : World} {e : Ending} (h : RangesRes r w e w') : RngV r.1 r.2 w e w' := by
  obtain ⟨v, rfl, hR, hb⟩ := h
  obtain ⟨A, c, rfl, hc, hC⟩ := Kd.R_reads hR
  exact ⟨_, rfl, ⟨A, c, rfl, hc, hC⟩, hb⟩
section
variable {l m : List S53} {v u : Value} {w : World}
theorem giveV (h : Rw w l v) (f t k : Int) (l' : List S53) (e' : Int) (hr : giveP l f t k = (l', e')) : Calls Try.prog 18 #[v, .agg #[.int .i64 f, .int .i64 t], .int .i64 k] w (MapV l' e' w) := by
  obtain ⟨A, c, rfl, hc, hC⟩ := h
  exact (give_calls l A c f t k w hC hc).mono fun e w' h' => by rw [hr] at h'; exact MapV.of h'
theorem takeV (h : Rw w l v) (f t : Int) (l' : List S53) (e' : Int) (hr : takeP l f t = (l', e')) : Calls Try.prog 19 #[v, .agg #[.int .i64 f, .int .i64 t]] w (MapV l' e' w) := by
  obtain ⟨A, c, rfl, hc, hC⟩ := h
  exact (take_calls l A c f t w hC hc).mono fun e w' h' => by rw [hr] at h'; exact MapV.of h'
theorem onlyV (h : Rw w l v) (f t : Int) (l' : List S53) (e' : Int) (hr : onlyR l f t = (l', e')) : Calls Try.prog 20 #[v, .agg #[.int .i64 f, .int .i64 t]] w (MapV l' e' w) := by
  obtain ⟨A, c, rfl, hc, hC⟩ := h
  exact (onlyF_calls l A c f t w hC hc).mono fun e w' h' => by rw [hr] at h'; exact MapV.of h'
theorem overlayV (h : Rw w l v) (h2 : Rw w m u) (l' : List S53) (e' : Int) (hr : overlayP l m = (l', e')) : Calls Try.prog 21 #[v, u] w (MapV l' e' w) := by
  obtain ⟨A, c, rfl, hc, hC⟩ := h
  obtain ⟨B, d, rfl, hd, hD⟩ := h2
  exact (overlay_calls l m A B c d w hC hD hc hd).mono fun e w' h' => by rw [hr] at h'; exact MapV.of h'
theorem swapV (h : Rw w l v) (f t : Int) (l' : List S53) (e' : Int) (hr : swapR l f t = (l', e')) : Calls Try.prog 22 #[v, .int .i64 f, .int .i64 t] w (MapV l' e' w) := by
  obtain ⟨A, c, rfl, hc, hC⟩ := h
  exact (swap_calls l A c f t w hC hc).mono fun e w' h' => by rw [hr] at h'; exact MapV.of h'
theorem validV (h : Rw w l v) (b : Bool) (hr : validP l = b) : Calls Try.prog 23 #[v] w fun e w' => e = .returned (.bool b) ∧ Below w.heap.size w w' := by
  obtain ⟨A, c, rfl, hc, hC⟩ := h
  exact (valid_calls l A c w hC).mono fun e w' h' => by rw [hr] at h'; exact h'
theorem differV (h : Rw w l v) (h2 : Rw w m u) (l' : List S26) (e' : Int) (hr : differP l m = (l', e')) : Calls Try.prog 26 #[v, u] w (RngV l' e' w) := by
  obtain ⟨A, c, rfl, hc, hC⟩ := h
  obtain ⟨B, d, rfl, hd, hD⟩ := h2
  exact (differ_calls l m A B c d w hC hD hc hd).mono fun e w' h' => by rw [hr] at h'; exact RngV.of h'
theorem freeV (h : Rw w l v) (n : Int) (k : Int) (b : Bool) (hr : freeP l n = (k, b)) : Calls Try.prog 32 #[v, .int .i64 n] w fun e w' => e = .returned (.tuple #[.int .i64 k, .bool b]) ∧ Below w.heap.size w w' := by
  obtain ⟨A, c, rfl, hc, hC⟩ := h
  exact (free_calls l A c n w hC hc).mono fun e w' h' => by rw [hr] at h'; exact h'
theorem countV (h : Rw w l v) (k : Int) (n : Int) (hr : cntP l k = n) : Calls Try.prog 30 #[v, .int .i64 k] w fun e w' => e = .returned (.int .i64 n) ∧ Below w.heap.size w w' := by
  obtain ⟨A, c, rfl, hc, hC⟩ := h
  exact (count_calls l A c k w hC).mono fun e w' h' => by rw [hr] at h'; exact h'
theorem findsV (h : Rw w l v) (n want : Int) (b : Bool) (hr : findsP l n want = b) : Calls Try.prog 34 #[v, .int .i64 n, .int .i64 want] w fun e w' => e = .returned (.bool b) ∧ Below w.heap.size w w' := by
  obtain ⟨A, c, rfl, hc, hC⟩ := h
  exact (finds_calls l A c n want w hC hc).mono fun e w' h' => by rw [hr] at h'; exact h'
theorem holderV (h : Rw w l v) (n k : Int) (hr : holderL l n = k) : Calls Try.prog 24 #[v, .int .i64 n] w fun e w' => e = .returned (.int .i64 k) ∧ Below w.heap.size w w' := by
  obtain ⟨A, c, rfl, hc, hC⟩ := h
  exact (holderL_calls l A c n w hC hc).mono fun e w' h' => by rw [hr] at h'; exact h'
theorem totalV (h : Rw w l v) (k : Int) (hr : totalP l = k) : Calls Try.prog 29 #[v] w fun e w' => e = .returned (.int .i64 k) ∧ Below w.heap.size w w' := by
  obtain ⟨A, c, rfl, hc, hC⟩ := h
  exact (total_calls l A c w hC hc).mono fun e w' h' => by rw [hr] at h'; exact h'
theorem sameV (h : Rw w l v) (h2 : Rw w m u) (hl : l.length ≤ 1000) (b : Bool) (hr : sameP l m = b) : Calls Try.prog 27 #[v, u] w fun e w' => e = .returned (.bool b) ∧ Below w.heap.size w w' := by
  obtain ⟨A, c, rfl, hc, hC⟩ := h
  obtain ⟨B, d, rfl, hd, hD⟩ := h2
  exact (dialtoneref13_Same.calls 2000 A c l B d m _ w hC hc hD hd (Same_f l m (by omega) 2000 (by omega))).mono fun e w' h' => by
    rw [hr] at h'
    obtain ⟨h1, q, rfl⟩ := h'
    exact ⟨h1, pw_below_drewN (Below.refl _ _) q⟩
theorem same2V {l m : List S26} (h : Rw2 w l v) (h2 : Rw2 w m u) (hl : l.length ≤ 1000) (b : Bool) (hr : sameRP l m = b) : Calls Try.prog 31 #[v, u] w fun e w' => e = .returned (.bool b) ∧ Below w.heap.size w w' := by
  obtain ⟨A, c, rfl, hc, hC⟩ := h
  obtain ⟨B, d, rfl, hd, hD⟩ := h2
  exact (dialtoneref13_SameRanges.calls 2000 A c l B d m _ w hC hc hD hd (SameRanges_f l m (by omega) 2000 (by omega))).mono fun e w' h' => by
    rw [hr] at h'
    obtain ⟨h1, q, rfl⟩ := h'
    exact ⟨h1, pw_below_drewN (Below.refl _ _) q⟩
theorem oneV (f t k : Int) (w : World) : Calls Try.prog 33 #[.int .i64 f, .int .i64 t, .int .i64 k] w fun e w' => e = .returned (.agg #[.int .i64 f, .int .i64 t, .int .i64 k]) ∧ Below w.heap.size w w' :=
  dialtonelaw13_one.calls f t k f t k w rfl
end
end Go.Proofs.Ytdflgjgoikofaaa.Bk

namespace Go.Proofs.Ytdflgjgoikofaaa.Pl
open Go.Proofs.Ytdflgjgoikofaaa.Ref Go.Proofs.Ytdflgjgoikofaaa.Bk

theorem piece_range (f l : Int) : rangeB (pieceP f l).1 (pieceP f l).2 = true := by
  have h1 := pickP_range f 60 (by omega)
  have h2 := pickP_range l (60 - pickP f 60) (by omega)
  simp only [rangeB, Bool.and_eq_true, decide_eq_true_eq]
  unfold pieceP
  split <;> refine ⟨⟨?_, ?_⟩, ?_⟩ <;> omega
theorem carr_pick5 (c : Int) (h : pickP c 5 < 4) : carrB (2 * pickP c 5) = true := by
  have h1 := pickP_range c 5 (by omega)
  simp only [carrB, Bool.and_eq_true, decide_eq_true_eq]
  omega
theorem carr_pick8 (c : Int) : carrB (pickP c 8) = true := by
  have h1 := pickP_range c 8 (by omega)
  simp only [carrB, Bool.and_eq_true, decide_eq_true_eq]
  omega
theorem fold_made (xs : List (Int × Int × Int)) : ∀ l E, validP l = true → Cut l E → E.length + 2 * xs.length ≤ 40 → ∃ F, F.length ≤ E.length + 2 * xs.length ∧ validP (xs.foldl madeS l) = true ∧ Cut (xs.foldl madeS l) F := by
  induction xs with
  | nil => intro l E h1 h2 _; exact ⟨E, by simp, h1, h2⟩
  | cons x xs ih =>
    intro l E h1 h2 h3
    simp only [List.length_cons] at h3
    have hs : ∃ F, F.length = E.length + 2 ∧ validP (madeS l x) = true ∧ Cut (madeS l x) F := by
      unfold madeS
      split
      · rename_i hk
        obtain ⟨out, e1, e2, _, e4⟩ := give_spec h1 h2 (piece_range x.1 x.2.1) (carr_pick5 x.2.2 hk) (by omega)
        rw [give_eq, e1]
        exact ⟨_, by simp, e2, e4⟩
      · obtain ⟨out, e1, e2, _, e4⟩ := take_spec h1 h2 (piece_range x.1 x.2.1) (by omega)
        rw [take_eq, e1]
        exact ⟨_, by simp, e2, e4⟩
    obtain ⟨F, f1, f2, f3⟩ := hs
    obtain ⟨G, g1, g2, g3⟩ := ih _ F f2 f3 (by omega)
    exact ⟨G, by simp only [List.length_cons]; omega, g2, g3⟩
/-- What is made is a map; it changes at few numbers. -/
theorem made_spec (xs : List (Int × Int × Int)) (k : Nat) (hk : xs.length ≤ k) (hk2 : k ≤ 12) : ∃ E, E.length ≤ 2 * k ∧ validP (madeP xs) = true ∧ Cut (madeP xs) E := by
  obtain ⟨F, f1, f2, f3⟩ := fold_made (xs.take 12) [] [] rfl cut_nil (by simp; omega)
  exact ⟨F, by simp at f1; omega, f2, f3⟩
theorem made_spec12 (xs : List (Int × Int × Int)) : ∃ E, E.length ≤ 24 ∧ validP (madeP xs) = true ∧ Cut (madeP xs) E := by
  obtain ⟨F, f1, f2, f3⟩ := fold_made (xs.take 12) [] [] rfl cut_nil (by simp; omega)
  exact ⟨F, by simp at f1; omega, f2, f3⟩

/-! ### finding -/
theorem find_neg (l : List S53) : ∀ p, validFrom p l = true → ∀ n, (l.find? (holds n) = none ↔ hold l n = -1) ∧ ∀ b, l.find? (holds n) = some b → hold l n = bC b ∧ 0 ≤ bC b := by
  intro p hp n
  have hmem : ∀ b ∈ l, 0 ≤ bC b := by
    clear n
    induction l generalizing p with
    | nil => intro b hb; simp at hb
    | cons c l ih =>
      intro b hb
      have hc := validFrom_cons hp
      rcases List.mem_cons.1 hb with rfl | hb
      · omega
      · exact ih c hc.2 b hb
  unfold hold
  cases hf : l.find? (holds n) with
  | none => exact ⟨by simp, fun b hb => by simp at hb⟩
  | some b =>
    have := hmem b (List.mem_of_find?_eq_some hf)
    refine ⟨⟨fun h => by simp at h, fun h => by simp only at h; omega⟩, fun c hc => ?_⟩
    simp only [Option.some.injEq] at hc
    subst hc
    exact ⟨rfl, this⟩
theorem holderL_valid {l : List S53} (h : validP l = true) (n : Int) : holderL l n = hold l n := by
  obtain ⟨h1, h2⟩ := find_neg l b00 (validP_from h) n
  unfold holderL findP
  rw [if_pos h]
  cases hf : l.find? (holds n) with
  | none => have := h1.1 hf; simp [this]
  | some b => have := h2 b hf; simp [this.1]

/-! ### the free number -/
theorem freeL_law (n : Int) (l : List S53) (L : List Pc) : ∀ f g, Part f L g → (∀ r ∈ L, ∀ m, r.f ≤ m → m < r.t → hold l m = r.x ∧ hold [] m = r.y) →
    (freeL n L = (0, false) ∧ ∀ m, max n f ≤ m → m < g → hold l m ≠ -1) ∨ (∃ k, freeL n L = (k, true) ∧ max n f ≤ k ∧ k < g ∧ hold l k = -1 ∧ ∀ m, max n f ≤ m → m < k → hold l m ≠ -1) := by
  induction L with
  | nil => intro f g hp _; exact .inl ⟨rfl, fun m h1 h2 => by have : f = g := hp; omega⟩
  | cons p L ih =>
    intro f g hp ht
    have h1 := hp.1
    have h2 := hp.2.1
    have h3 := part_le _ _ _ hp.2.2
    have hpx := fun m h h' => (ht p (by simp) m h h').1
    simp only [freeL]
    by_cases hc : p.x = -1 ∧ n < p.t
    · rw [if_pos hc]
      refine .inr ⟨max n p.f, rfl, by omega, by omega, ?_, fun m hm hm2 => by omega⟩
      rw [hpx _ (by omega) (by omega)]; exact hc.1
    · rw [if_neg hc]
      have hno : ∀ m, max n f ≤ m → m < p.t → hold l m ≠ -1 := by
        intro m hm hm2
        rw [hpx m (by omega) hm2]
        intro e
        exact hc ⟨e, by omega⟩
      rcases ih p.t g hp.2.2 (fun r hr => ht r (by simp [hr])) with ⟨e1, e2⟩ | ⟨k, e1, e2, e3, e4, e5⟩
      · refine .inl ⟨e1, fun m hm hm2 => ?_⟩
        by_cases hlt : m < p.t
        · exact hno m hm hlt
        · exact e2 m (by omega) hm2
      · refine .inr ⟨k, e1, by omega, e3, e4, fun m hm hm2 => ?_⟩
        by_cases hlt : m < p.t
        · exact hno m hm hlt
        · exact e5 m (by omega) hm2
theorem free_spec {l : List S53} (h : validP l = true) {n : Int} (hn : 0 ≤ n ∧ n ≤ 99999999) :
    (freeP l n = (0, false) ∧ ∀ m, n ≤ m → m < 100000000 → 0 ≤ hold l m) ∨ (∃ k, freeP l n = (k, true) ∧ n ≤ k ∧ k ≤ 99999999 ∧ hold l k = -1 ∧ ∀ m, n ≤ m → m < k → 0 ≤ hold l m) := by
  have hv := validP_from h
  have hrg := hold_range l b00 hv
  obtain ⟨p1, p2⟩ := pieces_law l [] hv rfl
  have e : freeP l n = freeL n (pieces l []) := by unfold freeP; rw [if_pos ⟨h, hn.1, hn.2⟩]
  rw [e]
  rcases freeL_law n l (pieces l []) 0 100000000 p1 p2 with ⟨e1, e2⟩ | ⟨k, e1, e2, e3, e4, e5⟩
  · exact .inl ⟨e1, fun m h1 h2 => by have := e2 m (by omega) h2; have := hrg m; omega⟩
  · exact .inr ⟨k, e1, by omega, by omega, e4, fun m h1 h2 => by have := e5 m (by omega) h2; have := hrg m; omega⟩
end Go.Proofs.Ytdflgjgoikofaaa.Pl
