/- Proved: the law BlockPointwise of package block returns true at every input, and changes none; no condition. -/
import Derived.Test.YtdflgjgoikofaaaZ6
import Derived.Test.YtdflgjgoikofaaaZ7
import Derived.IntWalk
import Derived.Test.YtdflgjgoikofaaaRows
import Derived.WalkKit
import Derived.ProofKit
import Derived.OpenShut
import Derived.ShutString
import Derived.ChangeOld
import Derived.Below
set_option linter.unusedVariables false
set_option linter.unusedSimpArgs false
set_option linter.unusedVariables false
namespace Go.Proofs.Ytdflgjgoikofaaa.Bk
open Go.RowKit Go.Shelf Go.Proofs.YtdflgjgoikofaaaW.PrintWords Go.Proofs.YtdflgjgoikofaaaW.PrintLast Go.Proofs.YtdflgjgoikofaaaW.PrintMore
open Go.Proofs.Ytdflgjgoikofaaa.Ref Go.Proofs.Ytdflgjgoikofaaa.Pl Go.Proofs.Ytdflgjgoikofaaa.Rg

theorem nearV {l : List S53} {v : Value} {w : World} (h : Rw w l v) (hv : validP l = true) (which n : Int) (hw : I64 which) (hn : I64 n) : Calls Try.prog 15 #[v, .int .i64 which, .int .i64 n] w fun e w' => e = .returned (.int .i64 (nearP l which n)) ∧ Below w.heap.size w w' := by
  obtain ⟨A, c, rfl, hc, hC⟩ := h
  exact dialtoneref13_Near.calls 2 A c l which n _ w hC hc (Near_f l which n hv hw hn 2 (by omega))
theorem pickV (c n : Int) (w : World) (hc : I64 c) (hn : 0 < n) : Calls Try.prog 17 #[.int .i64 c, .int .i64 n] w fun e w' => e = .returned (.int .i64 (pickP c n)) ∧ Below w.heap.size w w' :=
  (dialtonelaw13_pick.calls c n _ w (pick_law c n hc hn)).mono fun e w' h => by
    obtain ⟨h1, q, rfl⟩ := h
    exact ⟨h1, pw_below_drewN (Below.refl _ _) q⟩
theorem madeV (xs : List (Int × Int × Int)) (A : Option Addr) (c : Nat) (w : World) (hx : Trip w A xs) (hc : xs.length ≤ c) (hn : xs.length ≤ 9223372036854775807) :
    Calls Try.prog 12 #[.slice A xs.length c] w fun e w' => ∃ v, e = .returned v ∧ Rw w' (madeP xs) v ∧ Below w.heap.size w w' :=
  (made_calls xs A c w hx hc hn).mono fun e w' h => by
    obtain ⟨A', c', rfl, h1, h2, h3⟩ := h
    exact ⟨_, rfl, ⟨A', c', rfl, h2, h1⟩, h3⟩
theorem Trip.below {w w' : World} {A : Option Addr} {xs : List (Int × Int × Int)} (h : Trip w A xs) (hb : Below w.heap.size w w') : Trip w' A xs :=
  ⟨h.1, fun h0 => by
    obtain ⟨ad, rfl, h2⟩ := h.2 h0
    exact ⟨ad, rfl, fun i hi => ⟨pw_cell_below hb (h2 i hi).1, pw_cell_below hb (h2 i hi).2.1, pw_cell_below hb (h2 i hi).2.2⟩⟩⟩

set_option maxHeartbeats 8000000 in
set_option maxRecDepth 100000 in
theorem blockFree_calls (xs : List (Int × Int × Int)) (A : Option Addr) (c : Nat) (which n t btw : Int) (w : World) (hx : Trip w A xs) (hc : xs.length ≤ c) (hl : xs.length ≤ 9223372036854775807) (hwh : I64 which) (hn : I64 n) (ht : I64 t) (hb : I64 btw) :
    Calls Try.prog 10 #[.slice A xs.length c, .int .i64 which, .int .i64 n, .int .i64 t, .int .i64 btw] w fun e w' => e = .returned (.bool true) ∧ Below w.heap.size w w' := by
  have HX := Aside0.mk hx
  have HC := Aside0.mk hc
  have HL := Aside0.mk hl
  have HWH := Aside0.mk hwh
  have HN := Aside0.mk hn
  have HT := Aside0.mk ht
  have HBT := Aside0.mk hb
  clear hx hc hl hwh hn ht hb
  obtain ⟨E, e1, e2, e3⟩ := made_spec12 xs
  have HE1 := Aside0.mk e1
  have HE2 := Aside0.mk e2
  have HE3 := Aside0.mk e3
  clear e1 e2 e3
  go_enter Try.func10, Try.ntmps10
  go_wp2_with fail
  refine (sane_calls _).mono ?_
  rintro e w1 ⟨rfl, h1⟩
  have HB := Aside0.mk h1
  clear h1
  go_wp2_with fail
  refine (madeV xs A c _ (HX.out.below HB.out) HC.out HL.out).mono ?_
  rintro e w2 ⟨v, rfl, r2, h2⟩
  generalize madeP xs = a at *
  have RA := Aside0.mk r2
  replace HB := Aside0.mk (below_step HB.out h2)
  clear h2 r2
  go_wp2_with fail
  refine (nearV RA.out HE2.out which n HWH.out HN.out).mono ?_
  rintro e w3 ⟨rfl, h3⟩
  replace RA := Aside0.mk (RA.out.below h3)
  replace HB := Aside0.mk (below_step HB.out h3)
  clear h3
  generalize nearP a which n = k
  by_cases hk : 0 ≤ k ∧ k ≤ 99999999
  · obtain ⟨k0, k1⟩ := hk
    have b0 : decide (k < 0) = false := decide_eq_false (by omega)
    have b1 : decide (99999999 < k) = false := decide_eq_false (by omega)
    rcases free_spec HE2.out ⟨k0, k1⟩ with ⟨f1, f2⟩ | ⟨m, f1, f2, f3, f4, f5⟩
    · have F1 := Aside0.mk f1
      have hp := pickP_range btw (100000000 - k) (by omega)
      have hh := f2 (k + pickP btw (100000000 - k)) (by omega) (by omega)
      have HP := Aside0.mk hp
      have HH := Aside0.mk hh
      have hpos : 0 < 100000000 - k := by omega
      clear f1 f2 hh
      go_wp2_with fail
      refine (freeV RA.out k 0 false F1.out).mono ?_
      rintro e w4 ⟨rfl, h4⟩
      replace RA := Aside0.mk (RA.out.below h4)
      replace HB := Aside0.mk (below_step HB.out h4)
      clear h4
      go_wp2_with fail
      refine (pickV btw _ _ HBT.out hpos).mono ?_
      rintro e w5 ⟨rfl, h5⟩
      replace RA := Aside0.mk (RA.out.below h5)
      replace HB := Aside0.mk (below_step HB.out h5)
      clear h5
      generalize pickP btw (100000000 - k) = z at *
      go_wp2_with fail
      refine (holderV RA.out _ (hold a (k + z)) (holderL_valid HE2.out _)).mono ?_
      rintro e w6 ⟨rfl, h6⟩
      replace HB := Aside0.mk (below_step HB.out h6)
      clear h6
      have hz : decide (0 ≤ hold a (k + z)) = true := decide_eq_true HH.out
      generalize hold a (k + z) = y at *
      go_wp2_with fail
      go_ret
      exact ⟨rfl, HB.out⟩
    · have F1 := Aside0.mk f1
      have F4 := Aside0.mk f4
      replace f5 := Aside0.mk f5
      have K0 := Aside0.mk (And.intro k0 (And.intro k1 (And.intro f2 f3)))
      have b2 : decide (m < k) = false := decide_eq_false (by omega)
      have b3 : decide (99999999 < m) = false := decide_eq_false (by omega)
      clear f1 f4
      go_wp2_with fail
      refine (freeV RA.out k m true F1.out).mono ?_
      rintro e w4 ⟨rfl, h4⟩
      replace RA := Aside0.mk (RA.out.below h4)
      replace HB := Aside0.mk (below_step HB.out h4)
      clear h4
      go_wp2_with fail
      refine (holderV RA.out m (-1) ((holderL_valid HE2.out _).trans F4.out)).mono ?_
      rintro e w5 ⟨rfl, h5⟩
      replace RA := Aside0.mk (RA.out.below h5)
      replace HB := Aside0.mk (below_step HB.out h5)
      clear h5
      by_cases hkm : k < m
      · have b4 : decide (k < m) = true := decide_eq_true hkm
        have hpos : 0 < m - k := by omega
        have hp := pickP_range btw (m - k) hpos
        have hh := f5.out (k + pickP btw (m - k)) (by omega) (by omega)
        have HH := Aside0.mk hh
        clear hh
        go_wp2_with fail
        refine (pickV btw _ _ HBT.out hpos).mono ?_
        rintro e w6 ⟨rfl, h6⟩
        replace RA := Aside0.mk (RA.out.below h6)
        replace HB := Aside0.mk (below_step HB.out h6)
        clear h6
        generalize pickP btw (m - k) = z at *
        go_wp2_with fail
        refine (holderV RA.out _ (hold a (k + z)) (holderL_valid HE2.out _)).mono ?_
        rintro e wh ⟨rfl, hh6⟩
        replace RA := Aside0.mk (RA.out.below hh6)
        replace HB := Aside0.mk (below_step HB.out hh6)
        clear hh6
        have hz : decide (hold a (k + z) < 0) = false := decide_eq_false (by have := HH.out; omega)
        generalize hold a (k + z) = y at *
        go_wp2_with fail
        refine (pickV t 8 _ HT.out (by omega)).mono ?_
        rintro e w7 ⟨rfl, h7⟩
        replace RA := Aside0.mk (RA.out.below h7)
        replace HB := Aside0.mk (below_step HB.out h7)
        clear h7
        obtain ⟨out, g1, g2, g3, g4⟩ := give_spec HE2.out HE3.out (f := m) (t := m + 1) (c := pickP t 8) (by simp only [rangeB, Bool.and_eq_true, decide_eq_true_eq]; omega) (carr_pick8 t) (by have := HE1.out; omega)
        have hp8 := pickP_range t 8 (by omega)
        generalize pickP t 8 = c8 at *
        have G1 := Aside0.mk g1
        have G2 := Aside0.mk g2
        have hfree := free_spec g2 (n := k) (by have := K0.out; omega)
        have hcase : freeP out k = (0, false) ∨ ∃ j, freeP out k = (j, true) ∧ m < j := by
          rcases hfree with ⟨q1, _⟩ | ⟨j, q1, q2, q3, q4, _⟩
          · exact .inl q1
          · refine .inr ⟨j, q1, ?_⟩
            rw [g3 j] at q4
            by_cases hj : m ≤ j ∧ j < m + 1
            · rw [if_pos hj] at q4; omega
            · rw [if_neg hj] at q4
              by_cases hlt : j < m
              · have := f5.out j q2 hlt; omega
              · omega
        have HCASE := Aside0.mk hcase
        clear g1 g2 g3 g4 hfree hp8 hcase
        go_wp2_with fail
        refine (giveV RA.out m (m + 1) c8 out 0 G1.out).mono ?_
        rintro e w8 ⟨v8, rfl, r8, h8⟩
        have RO := Aside0.mk r8
        replace HB := Aside0.mk (below_step HB.out h8)
        clear r8 h8
        go_wp2_with fail
        rcases HCASE.out with q1 | ⟨j, q1, q2⟩
        · have Q1 := Aside0.mk q1
          clear q1
          refine (freeV RO.out k 0 false Q1.out).mono ?_
          rintro e w9 ⟨rfl, h9⟩
          replace HB := Aside0.mk (below_step HB.out h9)
          clear h9
          go_wp2_with fail
          go_ret
          exact ⟨rfl, HB.out⟩
        · have Q1 := Aside0.mk q1
          have hjb : decide (m < j) = true := decide_eq_true q2
          clear q1 q2
          refine (freeV RO.out k j true Q1.out).mono ?_
          rintro e w9 ⟨rfl, h9⟩
          replace HB := Aside0.mk (below_step HB.out h9)
          clear h9
          go_wp2_with fail
          go_ret
          exact ⟨rfl, HB.out⟩
      · have b4 : decide (k < m) = false := decide_eq_false hkm
        go_wp2_with fail
        refine (pickV t 8 _ HT.out (by omega)).mono ?_
        rintro e w7 ⟨rfl, h7⟩
        replace RA := Aside0.mk (RA.out.below h7)
        replace HB := Aside0.mk (below_step HB.out h7)
        clear h7
        obtain ⟨out, g1, g2, g3, g4⟩ := give_spec HE2.out HE3.out (f := m) (t := m + 1) (c := pickP t 8) (by simp only [rangeB, Bool.and_eq_true, decide_eq_true_eq]; omega) (carr_pick8 t) (by have := HE1.out; omega)
        have hp8 := pickP_range t 8 (by omega)
        generalize pickP t 8 = c8 at *
        have G1 := Aside0.mk g1
        have G2 := Aside0.mk g2
        have hfree := free_spec g2 (n := k) (by have := K0.out; omega)
        have hcase : freeP out k = (0, false) ∨ ∃ j, freeP out k = (j, true) ∧ m < j := by
          rcases hfree with ⟨q1, _⟩ | ⟨j, q1, q2, q3, q4, _⟩
          · exact .inl q1
          · refine .inr ⟨j, q1, ?_⟩
            rw [g3 j] at q4
            by_cases hj : m ≤ j ∧ j < m + 1
            · rw [if_pos hj] at q4; omega
            · rw [if_neg hj] at q4
              by_cases hlt : j < m
              · have := f5.out j q2 hlt; omega
              · omega
        have HCASE := Aside0.mk hcase
        clear g1 g2 g3 g4 hfree hp8 hcase
        go_wp2_with fail
        refine (giveV RA.out m (m + 1) c8 out 0 G1.out).mono ?_
        rintro e w8 ⟨v8, rfl, r8, h8⟩
        have RO := Aside0.mk r8
        replace HB := Aside0.mk (below_step HB.out h8)
        clear r8 h8
        go_wp2_with fail
        rcases HCASE.out with q1 | ⟨j, q1, q2⟩
        · have Q1 := Aside0.mk q1
          clear q1
          refine (freeV RO.out k 0 false Q1.out).mono ?_
          rintro e w9 ⟨rfl, h9⟩
          replace HB := Aside0.mk (below_step HB.out h9)
          clear h9
          go_wp2_with fail
          go_ret
          exact ⟨rfl, HB.out⟩
        · have Q1 := Aside0.mk q1
          have hjb : decide (m < j) = true := decide_eq_true q2
          clear q1 q2
          refine (freeV RO.out k j true Q1.out).mono ?_
          rintro e w9 ⟨rfl, h9⟩
          replace HB := Aside0.mk (below_step HB.out h9)
          clear h9
          go_wp2_with fail
          go_ret
          exact ⟨rfl, HB.out⟩
  · have hf : freeP a k = (0, false) := by unfold freeP; rw [if_neg (fun h => hk ⟨h.2.1, h.2.2⟩)]
    have HF := Aside0.mk hf
    have HK := Aside0.mk hk
    clear hf
    by_cases h0 : k < 0
    · have b0 : decide (k < 0) = true := decide_eq_true h0
      clear hk
      go_wp2_with fail
      refine (freeV RA.out k 0 false HF.out).mono ?_
      rintro e w4 ⟨rfl, h4⟩
      replace HB := Aside0.mk (below_step HB.out h4)
      clear h4
      go_wp2_with fail
      go_ret
      exact ⟨rfl, HB.out⟩
    · have b0 : decide (k < 0) = false := decide_eq_false h0
      have b1 : decide (99999999 < k) = true := decide_eq_true (by omega)
      clear hk h0
      go_wp2_with fail
      refine (freeV RA.out k 0 false HF.out).mono ?_
      rintro e w4 ⟨rfl, h4⟩
      replace HB := Aside0.mk (below_step HB.out h4)
      clear h4
      go_wp2_with fail
      go_ret
      exact ⟨rfl, HB.out⟩
end Go.Proofs.Ytdflgjgoikofaaa.Bk

set_option linter.unusedVariables false
namespace Go.Proofs.Ytdflgjgoikofaaa.Bk
open Go.RowKit Go.Shelf Go.Proofs.YtdflgjgoikofaaaW.PrintWords Go.Proofs.YtdflgjgoikofaaaW.PrintLast Go.Proofs.YtdflgjgoikofaaaW.PrintMore
open Go.Proofs.Ytdflgjgoikofaaa.Ref Go.Proofs.Ytdflgjgoikofaaa.Pl Go.Proofs.Ytdflgjgoikofaaa.Rg
attribute [local go_sem high] run_min_min run_max_max

theorem Trip.take {w : World} {A : Option Addr} {xs : List (Int × Int × Int)} (h : Trip w A xs) (n : Nat) : Trip w A (xs.take n) := by
  refine ⟨fun x hx => h.1 x (List.mem_of_mem_take hx), fun h0 => ?_⟩
  simp only [List.length_take] at h0
  obtain ⟨ad, rfl, h2⟩ := h.2 (by omega)
  refine ⟨ad, rfl, fun i hi => ?_⟩
  simp only [List.length_take] at hi
  have e : (xs.take n).getD i (0, 0, 0) = xs.getD i (0, 0, 0) := by simp only [List.getD_eq_getElem?_getD]; rw [List.getElem?_take, if_pos (by omega)]
  rw [e]
  exact h2 i (by omega)
theorem madeTV {w : World} {A : Option Addr} {xs : List (Int × Int × Int)} (hx : Trip w A xs) (c : Nat) (hc : xs.length ≤ c) (n k : Nat) (hn : n ≤ 1000) (hk : k = min xs.length n) :
    Calls Try.prog 12 #[.slice A k c] w fun e w' => ∃ v, e = .returned v ∧ Rw w' (madeP (xs.take n)) v ∧ Below w.heap.size w w' := by
  have e : k = (xs.take n).length := by rw [List.length_take]; omega
  rw [e]
  exact madeV _ A c w (hx.take n) (by rw [List.length_take]; omega) (by rw [List.length_take]; omega)
theorem valid_eq {l m : List S53} (h1 : validP l = true) (h2 : validP m = true) (h : ∀ n, hold l n = hold m n) : sameP l m = true := (sameP_iff l m).2 (valid_ext l b00 b00 m (validP_from h1) (validP_from h2) h)
theorem valid1000 {l : List S53} (h : validP l = true) : l.length ≤ 1000 := by have := validP_len h; omega

set_option maxHeartbeats 8000000 in
set_option maxRecDepth 100000 in
theorem blockOverlays_calls (xs ys zs : List (Int × Int × Int)) (A B C : Option Addr) (ca cb cc : Nat) (q0 q1 : Int) (w : World) (hx : Trip w A xs) (hy : Trip w B ys) (hz : Trip w C zs) (hca : xs.length ≤ ca) (hcb : ys.length ≤ cb) (hcc : zs.length ≤ cc)
    (h0 : I64 q0) (h1 : I64 q1) :
    Calls Try.prog 7 #[.slice A xs.length ca, .slice B ys.length cb, .slice C zs.length cc, .agg #[.int .i64 q0, .int .i64 q1]] w fun e w' => e = .returned (.bool true) ∧ Below w.heap.size w w' := by
  have HX := Aside0.mk (hx.below ((Below.refl _ w).alloc (Nat.le_refl _) (.cells #[.int .i64 q0, .int .i64 q1] 35)))
  have HY := Aside0.mk (hy.below ((Below.refl _ w).alloc (Nat.le_refl _) (.cells #[.int .i64 q0, .int .i64 q1] 35)))
  have HZ := Aside0.mk (hz.below ((Below.refl _ w).alloc (Nat.le_refl _) (.cells #[.int .i64 q0, .int .i64 q1] 35)))
  have CX := Aside0.mk hca
  have CY := Aside0.mk hcb
  have CZ := Aside0.mk hcc
  have H0 := Aside0.mk h0
  have H1 := Aside0.mk h1
  have HQ := Aside0.mk (blk_new w (.cells #[.int .i64 q0, .int .i64 q1] 35))
  have HB := Aside0.mk ((Below.refl _ w).alloc (Nat.le_refl _) (.cells #[.int .i64 q0, .int .i64 q1] 35))
  obtain ⟨kx, hkx⟩ : ∃ k : Nat, k = min xs.length 8 := ⟨_, rfl⟩
  obtain ⟨ky, hky⟩ : ∃ k : Nat, k = min ys.length 5 := ⟨_, rfl⟩
  obtain ⟨kz, hkz⟩ : ∃ k : Nat, k = min zs.length 5 := ⟨_, rfl⟩
  have mx1 : min (xs.length : Int) 8 = (kx : Int) := by omega
  have mx2 := eq_true (show (0 : Int) ≤ (kx : Int) by omega)
  have mx3 := eq_true (show (kx : Int) ≤ (ca : Int) by omega)
  have my1 : min (ys.length : Int) 5 = (ky : Int) := by omega
  have my2 := eq_true (show (0 : Int) ≤ (ky : Int) by omega)
  have my3 := eq_true (show (ky : Int) ≤ (cb : Int) by omega)
  have mz1 : min (zs.length : Int) 5 = (kz : Int) := by omega
  have mz2 := eq_true (show (0 : Int) ≤ (kz : Int) by omega)
  have mz3 := eq_true (show (kz : Int) ≤ (cc : Int) by omega)
  have KX := Aside0.mk hkx
  have KY := Aside0.mk hky
  have KZ := Aside0.mk hkz
  clear hx hy hz hca hcb hcc h0 h1 hkx hky hkz
  obtain ⟨EA, ea_, va_, ca_⟩ := made_spec (xs.take 8) 8 (by rw [List.length_take]; omega) (by omega)
  obtain ⟨EB, eb_, vb_, cb_⟩ := made_spec (ys.take 5) 5 (by rw [List.length_take]; omega) (by omega)
  obtain ⟨EC, ec_, vc_, cc_⟩ := made_spec (zs.take 5) 5 (by rw [List.length_take]; omega) (by omega)
  have MX := fun w' (h : Trip w' A xs) => madeTV h ca CX.out 8 kx (by omega) KX.out
  have MY := fun w' (h : Trip w' B ys) => madeTV h cb CY.out 5 ky (by omega) KY.out
  have MZ := fun w' (h : Trip w' C zs) => madeTV h cc CZ.out 5 kz (by omega) KZ.out
  have PR := piece_range q0 q1
  have PC := fun w' => piece_calls q0 q1 w' H0.out H1.out
  generalize madeP (xs.take 8) = a at *
  generalize madeP (ys.take 5) = b at *
  generalize madeP (zs.take 5) = c at *
  generalize pieceP q0 q1 = p at *
  obtain ⟨p0, p1⟩ := p
  have VA := Aside0.mk va_
  have VB := Aside0.mk vb_
  have VC := Aside0.mk vc_
  obtain ⟨ab, ab1_, ab2_, ab3_, ab4_⟩ := overlay_spec va_ ca_ vb_ cb_ (by omega)
  have AB1 := Aside0.mk ab1_
  have AB2 := Aside0.mk ab2_
  have AB3 := Aside0.mk ab3_
  have AB4 := Aside0.mk ab4_
  clear ab1_ ab2_ ab3_ ab4_
  obtain ⟨bc, bc1_, bc2_, bc3_, bc4_⟩ := overlay_spec vb_ cb_ vc_ cc_ (by omega)
  have BC1 := Aside0.mk bc1_
  have BC2 := Aside0.mk bc2_
  have BC3 := Aside0.mk bc3_
  have BC4 := Aside0.mk bc4_
  clear bc1_ bc2_ bc3_ bc4_
  obtain ⟨abc, abc1_, abc2_, abc3_, abc4_⟩ := overlay_spec AB2.out AB4.out vc_ cc_ (by simp only [List.length_append]; omega)
  have ABC1 := Aside0.mk abc1_
  have ABC2 := Aside0.mk abc2_
  have ABC3 := Aside0.mk abc3_
  have ABC4 := Aside0.mk abc4_
  clear abc1_ abc2_ abc3_ abc4_
  obtain ⟨rt, rt1_, rt2_, rt3_, rt4_⟩ := overlay_spec va_ ca_ BC2.out BC4.out (by simp only [List.length_append]; omega)
  have RT1 := Aside0.mk rt1_
  have RT2 := Aside0.mk rt2_
  have RT3 := Aside0.mk rt3_
  have RT4 := Aside0.mk rt4_
  clear rt1_ rt2_ rt3_ rt4_
  obtain ⟨sf, sf1_, sf2_, sf3_, sf4_⟩ := overlay_spec va_ ca_ va_ ca_ (by omega)
  have SF1 := Aside0.mk sf1_
  have SF2 := Aside0.mk sf2_
  have SF3 := Aside0.mk sf3_
  have SF4 := Aside0.mk sf4_
  clear sf1_ sf2_ sf3_ sf4_
  obtain ⟨ls, ls1_, ls2_, ls3_, ls4_⟩ := take_spec va_ ca_ PR (by omega)
  have LS1 := Aside0.mk ls1_
  have LS2 := Aside0.mk ls2_
  have LS3 := Aside0.mk ls3_
  have LS4 := Aside0.mk ls4_
  clear ls1_ ls2_ ls3_ ls4_
  obtain ⟨pt, pt1_, pt2_, pt3_, pt4_⟩ := only_spec va_ ca_ PR (by omega)
  have PT1 := Aside0.mk pt1_
  have PT2 := Aside0.mk pt2_
  have PT3 := Aside0.mk pt3_
  have PT4 := Aside0.mk pt4_
  clear pt1_ pt2_ pt3_ pt4_
  obtain ⟨bk, bk1_, bk2_, bk3_, bk4_⟩ := overlay_spec LS2.out LS4.out PT2.out PT4.out (by simp only [List.length_append, List.length_cons, List.length_nil]; omega)
  have BK1 := Aside0.mk bk1_
  have BK2 := Aside0.mk bk2_
  have BK3 := Aside0.mk bk3_
  have BK4 := Aside0.mk bk4_
  clear bk1_ bk2_ bk3_ bk4_
  obtain ⟨ag, ag1_, ag2_, ag3_, ag4_⟩ := overlay_spec PT2.out PT4.out LS2.out LS4.out (by simp only [List.length_append, List.length_cons, List.length_nil]; omega)
  have AG1 := Aside0.mk ag1_
  have AG2 := Aside0.mk ag2_
  have AG3 := Aside0.mk ag3_
  have AG4 := Aside0.mk ag4_
  clear ag1_ ag2_ ag3_ ag4_
  have MXA := Aside0.mk MX
  have MYA := Aside0.mk MY
  have MZA := Aside0.mk MZ
  have PCA := Aside0.mk PC
  clear ea_ va_ ca_ eb_ vb_ cb_ ec_ vc_ cc_ MX MY MZ PC PR
  go_enter Try.func7, Try.ntmps7
  go_wp2_with fail
  refine (sane_calls _).mono ?_
  rintro e w1_ ⟨rfl, h1_⟩
  replace HX := Aside0.mk ((HX.out).below h1_)
  replace HY := Aside0.mk ((HY.out).below h1_)
  replace HZ := Aside0.mk ((HZ.out).below h1_)
  replace HQ := Aside0.mk (blk_below HQ.out h1_)
  replace HB := Aside0.mk (below_step HB.out h1_)
  clear h1_
  go_wp2_with fail
  refine (MXA.out _ HX.out).mono ?_
  rintro e w2_ ⟨v2_, rfl, r2_, h2_⟩
  replace HX := Aside0.mk ((HX.out).below h2_)
  replace HY := Aside0.mk ((HY.out).below h2_)
  replace HZ := Aside0.mk ((HZ.out).below h2_)
  replace HQ := Aside0.mk (blk_below HQ.out h2_)
  replace HB := Aside0.mk (below_step HB.out h2_)
  clear h2_
  have RA := Aside0.mk r2_
  clear r2_
  clear HX
  go_wp2_with fail
  refine (MYA.out _ HY.out).mono ?_
  rintro e w3_ ⟨v3_, rfl, r3_, h3_⟩
  replace HY := Aside0.mk ((HY.out).below h3_)
  replace HZ := Aside0.mk ((HZ.out).below h3_)
  replace HQ := Aside0.mk (blk_below HQ.out h3_)
  replace RA := Aside0.mk ((RA.out).below h3_)
  replace HB := Aside0.mk (below_step HB.out h3_)
  clear h3_
  have RB := Aside0.mk r3_
  clear r3_
  clear HY
  go_wp2_with fail
  refine (MZA.out _ HZ.out).mono ?_
  rintro e w4_ ⟨v4_, rfl, r4_, h4_⟩
  replace HZ := Aside0.mk ((HZ.out).below h4_)
  replace HQ := Aside0.mk (blk_below HQ.out h4_)
  replace RA := Aside0.mk ((RA.out).below h4_)
  replace RB := Aside0.mk ((RB.out).below h4_)
  replace HB := Aside0.mk (below_step HB.out h4_)
  clear h4_
  have RC := Aside0.mk r4_
  clear r4_
  clear HZ
  have c0_ : w4_.cell? ⟨w.heap.size, 0, none⟩ = some (.int .i64 q0) := (blk_cell HQ.out 0).trans rfl
  have c1_ : w4_.cell? ⟨w.heap.size, 1, none⟩ = some (.int .i64 q1) := (blk_cell HQ.out 1).trans rfl
  go_wp2_with fail
  clear c0_ c1_
  refine (PCA.out _).mono ?_
  rintro e w5_ ⟨rfl, h5_⟩
  replace HQ := Aside0.mk (blk_below HQ.out h5_)
  replace RA := Aside0.mk ((RA.out).below h5_)
  replace RB := Aside0.mk ((RB.out).below h5_)
  replace RC := Aside0.mk ((RC.out).below h5_)
  replace HB := Aside0.mk (below_step HB.out h5_)
  clear h5_
  clear HQ
  go_wp2_with fail
  have hal_ := (Below.refl _ w5_).alloc (Nat.le_refl _) (.cells #[.int .i64 p0, .int .i64 p1] 26)
  replace RA := Aside0.mk ((RA.out).below hal_)
  replace RB := Aside0.mk ((RB.out).below hal_)
  replace RC := Aside0.mk ((RC.out).below hal_)
  replace HB := Aside0.mk (below_step HB.out hal_)
  clear hal_
  have HS := Aside0.mk (blk_new w5_ (.cells #[.int .i64 p0, .int .i64 p1] 26))
  refine (overlayV RA.out RB.out ab 0 AB1.out).mono ?_
  rintro e w6_ ⟨v6_, rfl, r6_, h6_⟩
  replace RA := Aside0.mk ((RA.out).below h6_)
  replace RB := Aside0.mk ((RB.out).below h6_)
  replace RC := Aside0.mk ((RC.out).below h6_)
  replace HS := Aside0.mk (blk_below HS.out h6_)
  replace HB := Aside0.mk (below_step HB.out h6_)
  clear h6_
  have RAB := Aside0.mk r6_
  clear r6_
  go_wp2_with fail
  refine (overlayV RAB.out RC.out abc 0 ABC1.out).mono ?_
  rintro e w7_ ⟨v7_, rfl, r7_, h7_⟩
  replace RA := Aside0.mk ((RA.out).below h7_)
  replace RB := Aside0.mk ((RB.out).below h7_)
  replace RC := Aside0.mk ((RC.out).below h7_)
  replace HS := Aside0.mk (blk_below HS.out h7_)
  replace RAB := Aside0.mk ((RAB.out).below h7_)
  replace HB := Aside0.mk (below_step HB.out h7_)
  clear h7_
  have RABC := Aside0.mk r7_
  clear r7_
  go_wp2_with fail
  refine (overlayV RB.out RC.out bc 0 BC1.out).mono ?_
  rintro e w8_ ⟨v8_, rfl, r8_, h8_⟩
  replace RA := Aside0.mk ((RA.out).below h8_)
  replace RB := Aside0.mk ((RB.out).below h8_)
  replace RC := Aside0.mk ((RC.out).below h8_)
  replace HS := Aside0.mk (blk_below HS.out h8_)
  replace RAB := Aside0.mk ((RAB.out).below h8_)
  replace RABC := Aside0.mk ((RABC.out).below h8_)
  replace HB := Aside0.mk (below_step HB.out h8_)
  clear h8_
  have RBC := Aside0.mk r8_
  clear r8_
  go_wp2_with fail
  refine (overlayV RA.out RBC.out rt 0 RT1.out).mono ?_
  rintro e w9_ ⟨v9_, rfl, r9_, h9_⟩
  replace RA := Aside0.mk ((RA.out).below h9_)
  replace RB := Aside0.mk ((RB.out).below h9_)
  replace RC := Aside0.mk ((RC.out).below h9_)
  replace HS := Aside0.mk (blk_below HS.out h9_)
  replace RAB := Aside0.mk ((RAB.out).below h9_)
  replace RABC := Aside0.mk ((RABC.out).below h9_)
  replace RBC := Aside0.mk ((RBC.out).below h9_)
  replace HB := Aside0.mk (below_step HB.out h9_)
  clear h9_
  have RRT := Aside0.mk r9_
  clear r9_
  go_wp2_with fail
  refine (overlayV RA.out RA.out sf 0 SF1.out).mono ?_
  rintro e w10_ ⟨v10_, rfl, r10_, h10_⟩
  replace RA := Aside0.mk ((RA.out).below h10_)
  replace RB := Aside0.mk ((RB.out).below h10_)
  replace RC := Aside0.mk ((RC.out).below h10_)
  replace HS := Aside0.mk (blk_below HS.out h10_)
  replace RAB := Aside0.mk ((RAB.out).below h10_)
  replace RABC := Aside0.mk ((RABC.out).below h10_)
  replace RBC := Aside0.mk ((RBC.out).below h10_)
  replace RRT := Aside0.mk ((RRT.out).below h10_)
  replace HB := Aside0.mk (below_step HB.out h10_)
  clear h10_
  have RSF := Aside0.mk r10_
  clear r10_
  have c0_ : w10_.cell? ⟨w5_.heap.size, 0, none⟩ = some (.int .i64 p0) := (blk_cell HS.out 0).trans rfl
  have c1_ : w10_.cell? ⟨w5_.heap.size, 1, none⟩ = some (.int .i64 p1) := (blk_cell HS.out 1).trans rfl
  go_wp2_with fail
  clear c0_ c1_
  refine (takeV RA.out p0 p1 ls 0 LS1.out).mono ?_
  rintro e w11_ ⟨v11_, rfl, r11_, h11_⟩
  replace RA := Aside0.mk ((RA.out).below h11_)
  replace RB := Aside0.mk ((RB.out).below h11_)
  replace RC := Aside0.mk ((RC.out).below h11_)
  replace HS := Aside0.mk (blk_below HS.out h11_)
  replace RAB := Aside0.mk ((RAB.out).below h11_)
  replace RABC := Aside0.mk ((RABC.out).below h11_)
  replace RBC := Aside0.mk ((RBC.out).below h11_)
  replace RRT := Aside0.mk ((RRT.out).below h11_)
  replace RSF := Aside0.mk ((RSF.out).below h11_)
  replace HB := Aside0.mk (below_step HB.out h11_)
  clear h11_
  have RLS := Aside0.mk r11_
  clear r11_
  have c0_ : w11_.cell? ⟨w5_.heap.size, 0, none⟩ = some (.int .i64 p0) := (blk_cell HS.out 0).trans rfl
  have c1_ : w11_.cell? ⟨w5_.heap.size, 1, none⟩ = some (.int .i64 p1) := (blk_cell HS.out 1).trans rfl
  go_wp2_with fail
  clear c0_ c1_
  refine (onlyV RA.out p0 p1 pt 0 PT1.out).mono ?_
  rintro e w12_ ⟨v12_, rfl, r12_, h12_⟩
  replace RA := Aside0.mk ((RA.out).below h12_)
  replace RB := Aside0.mk ((RB.out).below h12_)
  replace RC := Aside0.mk ((RC.out).below h12_)
  replace HS := Aside0.mk (blk_below HS.out h12_)
  replace RAB := Aside0.mk ((RAB.out).below h12_)
  replace RABC := Aside0.mk ((RABC.out).below h12_)
  replace RBC := Aside0.mk ((RBC.out).below h12_)
  replace RRT := Aside0.mk ((RRT.out).below h12_)
  replace RSF := Aside0.mk ((RSF.out).below h12_)
  replace RLS := Aside0.mk ((RLS.out).below h12_)
  replace HB := Aside0.mk (below_step HB.out h12_)
  clear h12_
  have RPT := Aside0.mk r12_
  clear r12_
  go_wp2_with fail
  refine (overlayV RLS.out RPT.out bk 0 BK1.out).mono ?_
  rintro e w13_ ⟨v13_, rfl, r13_, h13_⟩
  replace RA := Aside0.mk ((RA.out).below h13_)
  replace RB := Aside0.mk ((RB.out).below h13_)
  replace RC := Aside0.mk ((RC.out).below h13_)
  replace HS := Aside0.mk (blk_below HS.out h13_)
  replace RAB := Aside0.mk ((RAB.out).below h13_)
  replace RABC := Aside0.mk ((RABC.out).below h13_)
  replace RBC := Aside0.mk ((RBC.out).below h13_)
  replace RRT := Aside0.mk ((RRT.out).below h13_)
  replace RSF := Aside0.mk ((RSF.out).below h13_)
  replace RLS := Aside0.mk ((RLS.out).below h13_)
  replace RPT := Aside0.mk ((RPT.out).below h13_)
  replace HB := Aside0.mk (below_step HB.out h13_)
  clear h13_
  have RBK := Aside0.mk r13_
  clear r13_
  go_wp2_with fail
  refine (overlayV RPT.out RLS.out ag 0 AG1.out).mono ?_
  rintro e w14_ ⟨v14_, rfl, r14_, h14_⟩
  replace RA := Aside0.mk ((RA.out).below h14_)
  replace RB := Aside0.mk ((RB.out).below h14_)
  replace RC := Aside0.mk ((RC.out).below h14_)
  replace HS := Aside0.mk (blk_below HS.out h14_)
  replace RAB := Aside0.mk ((RAB.out).below h14_)
  replace RABC := Aside0.mk ((RABC.out).below h14_)
  replace RBC := Aside0.mk ((RBC.out).below h14_)
  replace RRT := Aside0.mk ((RRT.out).below h14_)
  replace RSF := Aside0.mk ((RSF.out).below h14_)
  replace RLS := Aside0.mk ((RLS.out).below h14_)
  replace RPT := Aside0.mk ((RPT.out).below h14_)
  replace RBK := Aside0.mk ((RBK.out).below h14_)
  replace HB := Aside0.mk (below_step HB.out h14_)
  clear h14_
  have RAG := Aside0.mk r14_
  clear r14_
  go_wp2_with fail
  refine (sameV RABC.out RRT.out (valid1000 ABC2.out) true (valid_eq ABC2.out RT2.out (fun n => by rw [ABC3.out n, AB3.out n, RT3.out n, BC3.out n]; (repeat' split) <;> first | rfl | omega))).mono ?_
  rintro e w15_ ⟨rfl, h15_⟩
  replace RA := Aside0.mk ((RA.out).below h15_)
  replace RB := Aside0.mk ((RB.out).below h15_)
  replace RC := Aside0.mk ((RC.out).below h15_)
  replace HS := Aside0.mk (blk_below HS.out h15_)
  replace RAB := Aside0.mk ((RAB.out).below h15_)
  replace RABC := Aside0.mk ((RABC.out).below h15_)
  replace RBC := Aside0.mk ((RBC.out).below h15_)
  replace RRT := Aside0.mk ((RRT.out).below h15_)
  replace RSF := Aside0.mk ((RSF.out).below h15_)
  replace RLS := Aside0.mk ((RLS.out).below h15_)
  replace RPT := Aside0.mk ((RPT.out).below h15_)
  replace RBK := Aside0.mk ((RBK.out).below h15_)
  replace RAG := Aside0.mk ((RAG.out).below h15_)
  replace HB := Aside0.mk (below_step HB.out h15_)
  clear h15_
  go_wp2_with fail
  refine (sameV RSF.out RA.out (valid1000 SF2.out) true (valid_eq SF2.out VA.out (fun n => by rw [SF3.out n]; (repeat' split) <;> first | rfl | omega))).mono ?_
  rintro e w16_ ⟨rfl, h16_⟩
  replace RA := Aside0.mk ((RA.out).below h16_)
  replace RB := Aside0.mk ((RB.out).below h16_)
  replace RC := Aside0.mk ((RC.out).below h16_)
  replace HS := Aside0.mk (blk_below HS.out h16_)
  replace RAB := Aside0.mk ((RAB.out).below h16_)
  replace RABC := Aside0.mk ((RABC.out).below h16_)
  replace RBC := Aside0.mk ((RBC.out).below h16_)
  replace RRT := Aside0.mk ((RRT.out).below h16_)
  replace RSF := Aside0.mk ((RSF.out).below h16_)
  replace RLS := Aside0.mk ((RLS.out).below h16_)
  replace RPT := Aside0.mk ((RPT.out).below h16_)
  replace RBK := Aside0.mk ((RBK.out).below h16_)
  replace RAG := Aside0.mk ((RAG.out).below h16_)
  replace HB := Aside0.mk (below_step HB.out h16_)
  clear h16_
  go_wp2_with fail
  refine (sameV RBK.out RA.out (valid1000 BK2.out) true (valid_eq BK2.out VA.out (fun n => by rw [BK3.out n, LS3.out n, PT3.out n]; (repeat' split) <;> first | rfl | omega))).mono ?_
  rintro e w17_ ⟨rfl, h17_⟩
  replace RA := Aside0.mk ((RA.out).below h17_)
  replace RB := Aside0.mk ((RB.out).below h17_)
  replace RC := Aside0.mk ((RC.out).below h17_)
  replace HS := Aside0.mk (blk_below HS.out h17_)
  replace RAB := Aside0.mk ((RAB.out).below h17_)
  replace RABC := Aside0.mk ((RABC.out).below h17_)
  replace RBC := Aside0.mk ((RBC.out).below h17_)
  replace RRT := Aside0.mk ((RRT.out).below h17_)
  replace RSF := Aside0.mk ((RSF.out).below h17_)
  replace RLS := Aside0.mk ((RLS.out).below h17_)
  replace RPT := Aside0.mk ((RPT.out).below h17_)
  replace RBK := Aside0.mk ((RBK.out).below h17_)
  replace RAG := Aside0.mk ((RAG.out).below h17_)
  replace HB := Aside0.mk (below_step HB.out h17_)
  clear h17_
  go_wp2_with fail
  refine (sameV RAG.out RA.out (valid1000 AG2.out) true (valid_eq AG2.out VA.out (fun n => by rw [AG3.out n, LS3.out n, PT3.out n]; (repeat' split) <;> first | rfl | omega))).mono ?_
  rintro e w18_ ⟨rfl, h18_⟩
  replace RA := Aside0.mk ((RA.out).below h18_)
  replace RB := Aside0.mk ((RB.out).below h18_)
  replace RC := Aside0.mk ((RC.out).below h18_)
  replace HS := Aside0.mk (blk_below HS.out h18_)
  replace RAB := Aside0.mk ((RAB.out).below h18_)
  replace RABC := Aside0.mk ((RABC.out).below h18_)
  replace RBC := Aside0.mk ((RBC.out).below h18_)
  replace RRT := Aside0.mk ((RRT.out).below h18_)
  replace RSF := Aside0.mk ((RSF.out).below h18_)
  replace RLS := Aside0.mk ((RLS.out).below h18_)
  replace RPT := Aside0.mk ((RPT.out).below h18_)
  replace RBK := Aside0.mk ((RBK.out).below h18_)
  replace RAG := Aside0.mk ((RAG.out).below h18_)
  replace HB := Aside0.mk (below_step HB.out h18_)
  clear h18_
  go_wp2_with fail
  go_ret
  exact ⟨rfl, HB.out⟩
end Go.Proofs.Ytdflgjgoikofaaa.Bk

namespace Go.Proofs.Ytdflgjgoikofaaa.Pl
open Go.Proofs.Ytdflgjgoikofaaa.Ref Go.Proofs.Ytdflgjgoikofaaa.Bk

def sel : Bool → Int → Int → Int
  | true, x, _ => x
  | false, _, y => y
theorem if_sel (p : Prop) [Decidable p] (x y : Int) : (if p then x else y) = sel (decide p) x y := by
  by_cases h : p
  · rw [if_pos h, decide_eq_true h]; rfl
  · rw [if_neg h, decide_eq_false h]; rfl
theorem in_dec (p0 p1 k : Int) : decide (p0 ≤ k ∧ k < p1) = inP ⟨p0, p1⟩ k := by
  unfold inP
  by_cases h1 : p0 ≤ k <;> by_cases h2 : k < p1 <;> simp [h1, h2]
/-- What is held of one number, before and after. -/
structure At (a b gv ls pt ov sw : List S53) (p0 p1 f t k x y : Int) (ib yb xb kb mb : Bool) : Prop where
  hx : hold a k = x
  hy : hold b k = y
  hib : inP ⟨p0, p1⟩ k = ib
  hyb : decide (0 ≤ y) = yb
  hxb : (x == f) = xb
  hkb : decide (k < 0) = kb
  hmb : decide (99999999 < k) = mb
  e1 : hold gv k = sel (kb || mb) (-1) (sel ib t x)
  e2 : hold ls k = sel ib (-1) x
  e3 : hold pt k = sel ib x (-1)
  e4 : hold ov k = sel yb y x
  e5 : hold sw k = sel xb t x
theorem at_facts {a b gv ls pt ov sw : List S53} {p0 p1 f t : Int} (hb : validP b = true) (hg : validP gv = true) (g3 : ∀ n, hold gv n = if p0 ≤ n ∧ n < p1 then t else hold a n) (l3 : ∀ n, hold ls n = if p0 ≤ n ∧ n < p1 then -1 else hold a n)
    (o3 : ∀ n, hold pt n = if p0 ≤ n ∧ n < p1 then hold a n else -1) (v3 : ∀ n, hold ov n = if hold b n = -1 then hold a n else hold b n) (s3 : ∀ n, hold sw n = if hold a n = f then t else hold a n) (k : Int) :
    ∃ x y ib yb xb kb mb, At a b gv ls pt ov sw p0 p1 f t k x y ib yb xb kb mb := by
  refine ⟨_, _, _, _, _, _, _, rfl, rfl, rfl, rfl, rfl, rfl, rfl, ?_, ?_, ?_, ?_, ?_⟩
  · by_cases h1 : k < 0
    · rw [decide_eq_true h1]; exact hold_out gv (validP_from hg) k (.inl h1)
    · by_cases h2 : 99999999 < k
      · rw [decide_eq_true h2, Bool.or_true]; exact hold_out gv (validP_from hg) k (.inr (by omega))
      · rw [decide_eq_false h1, decide_eq_false h2, g3 k, if_sel, in_dec]; rfl
  · rw [l3 k, if_sel, in_dec]
  · rw [o3 k, if_sel, in_dec]
  · have h3 := hold_range b b00 (validP_from hb) k
    rw [v3 k]
    by_cases h : hold b k = -1
    · rw [if_pos h, decide_eq_false (by omega)]; rfl
    · rw [if_neg h, decide_eq_true (by omega)]; rfl
  · rw [s3 k]
    by_cases h : hold a k = f
    · rw [if_pos h, beq_iff_eq.mpr h]; rfl
    · rw [if_neg h, beq_eq_false_iff_ne.mpr h]; rfl
end Go.Proofs.Ytdflgjgoikofaaa.Pl

set_option linter.unusedVariables false
namespace Go.Proofs.Ytdflgjgoikofaaa.Bk
open Go.RowKit Go.Shelf Go.Proofs.YtdflgjgoikofaaaW.PrintWords Go.Proofs.YtdflgjgoikofaaaW.PrintLast Go.Proofs.YtdflgjgoikofaaaW.PrintMore
open Go.Proofs.Ytdflgjgoikofaaa.Ref Go.Proofs.Ytdflgjgoikofaaa.Pl Go.Proofs.Ytdflgjgoikofaaa.Rg
attribute [local go_sem high] run_min_min run_max_max

theorem Rw.idx5 {w : World} {g : Nat} {k0 k1 k2 k3 k4 : Int} (h : w.heap[g]? = some (.cells #[.int .i64 k0, .int .i64 k1, .int .i64 k2, .int .i64 k3, .int .i64 k4] 3 (0, 0))) (i : Nat) (hi : i < 5) : ∃ k, w.cell? ⟨g, i, none⟩ = some (.int .i64 k) := by
  match i, hi with
  | 0, _ => exact ⟨_, (blk_cell h 0).trans rfl⟩
  | 1, _ => exact ⟨_, (blk_cell h 1).trans rfl⟩
  | 2, _ => exact ⟨_, (blk_cell h 2).trans rfl⟩
  | 3, _ => exact ⟨_, (blk_cell h 3).trans rfl⟩
  | 4, _ => exact ⟨_, (blk_cell h 4).trans rfl⟩
theorem in_callsV (f t n : Int) (ib : Bool) (h : inP ⟨f, t⟩ n = ib) (w : World) : Calls Try.prog 25 #[.agg #[.int .i64 f, .int .i64 t], .int .i64 n] w fun e w' => e = .returned (.bool ib) ∧ Below w.heap.size w w' := by
  rw [← h]
  exact in_calls f t n w
/-- A call that yields a number. -/
@[reducible] def Num (f : FuncId) (args : Array Value) (k : Int) : Prop := ∀ w', Calls Try.prog f args w' fun e w'' => e = .returned (.int .i64 k) ∧ Below w'.heap.size w' w''

set_option maxHeartbeats 16000000 in
set_option maxRecDepth 100000 in
theorem pointwise_walk (xs ys : List (Int × Int × Int)) (A B : Option Addr) (ca cb kx ky : Nat) (q0 q1 fr to' wh n p0 p1 f t z3 k0 k1 k2 k3 k4 : Int) (a b gv ls pt ov sw : List S53) (w : World)
    (F : Aside0 (Trip w A xs ∧ Trip w B ys))
    (mx1 : min (xs.length : Int) 10 = (kx : Int)) (mx2 : (0 ≤ (kx : Int)) = True) (mx3 : ((kx : Int) ≤ (ca : Int)) = True) (my1 : min (ys.length : Int) 8 = (ky : Int)) (my2 : (0 ≤ (ky : Int)) = True) (my3 : ((ky : Int) ≤ (cb : Int)) = True)
    (MXA : Aside0 (∀ w', Trip w' A xs → Calls Try.prog 12 #[.slice A kx ca] w' fun e w'' => ∃ v, e = .returned v ∧ Rw w'' a v ∧ Below w'.heap.size w' w''))
    (MYA : Aside0 (∀ w', Trip w' B ys → Calls Try.prog 12 #[.slice B ky cb] w' fun e w'' => ∃ v, e = .returned v ∧ Rw w'' b v ∧ Below w'.heap.size w' w''))
    (PCA : Aside0 (∀ w', Calls Try.prog 14 #[.int .i64 q0, .int .i64 q1] w' fun e w'' => e = .returned (.agg #[.int .i64 p0, .int .i64 p1]) ∧ Below w'.heap.size w' w''))
    (PK1 : Aside0 (Num 17 #[.int .i64 fr, .int .i64 8] f)) (PK2 : Aside0 (Num 17 #[.int .i64 to', .int .i64 8] t)) (PKM : Aside0 (Num 17 #[.int .i64 n, .int .i64 100000000] k4)) (PKT : Aside0 (Num 17 #[.int .i64 n, .int .i64 3] z3))
    (NA : Aside0 (∀ w' v, Rw w' a v → Calls Try.prog 15 #[v, .int .i64 wh, .int .i64 n] w' fun e w'' => e = .returned (.int .i64 k0) ∧ Below w'.heap.size w' w''))
    (NB : Aside0 (∀ w' v, Rw w' b v → Calls Try.prog 15 #[v, .int .i64 wh, .int .i64 n] w' fun e w'' => e = .returned (.int .i64 k1) ∧ Below w'.heap.size w' w''))
    (SS : Aside0 (IntKind.i64.wrap (p0 - 1) = p0 - 1 ∧ IntKind.i64.wrap (p0 - 1 + z3) = k2 ∧ IntKind.i64.wrap (p1 - 1) = p1 - 1 ∧ IntKind.i64.wrap (p1 - 1 + z3) = k3))
    (GV1 : Aside0 (giveP a p0 p1 t = (gv, 0))) (LS1 : Aside0 (takeP a p0 p1 = (ls, 0))) (PT1 : Aside0 (onlyR a p0 p1 = (pt, 0))) (OV1 : Aside0 (overlayP a b = (ov, 0))) (SW1 : Aside0 (swapR a f t = (sw, 0)))
    (VA : Aside0 (validP a = true)) (VB : Aside0 (validP b = true)) (GV2 : Aside0 (validP gv = true)) (LS2 : Aside0 (validP ls = true)) (PT2 : Aside0 (validP pt = true)) (OV2 : Aside0 (validP ov = true)) (SW2 : Aside0 (validP sw = true))
    (HV : Aside0 (∀ k, ∃ x y ib yb xb kb mb, At a b gv ls pt ov sw p0 p1 f t k x y ib yb xb kb mb)) :
    Calls Try.prog 4 #[.slice A xs.length ca, .slice B ys.length cb, .agg #[.int .i64 q0, .int .i64 q1], .int .i64 fr, .int .i64 to', .int .i64 wh, .int .i64 n] w fun e w' => e = .returned (.bool true) ∧ Below w.heap.size w w' := by
  go_enter Try.func4, Try.ntmps4
  go_wp2_with fail
  refine (sane_calls _).mono ?_
  rintro e w1 ⟨rfl, h1⟩
  have hal := (Below.refl _ w).alloc (Nat.le_refl _) (.cells #[.int .i64 q0, .int .i64 q1] 35)
  have G := Aside0.mk (And.intro ((F.out.1.below hal).below h1) (And.intro ((F.out.2.below hal).below h1) (And.intro (blk_below (blk_new w (.cells #[.int .i64 q0, .int .i64 q1] 35)) h1) (below_step hal h1))))
  clear F h1 hal
  go_wp2_with fail
  refine (MXA.out _ G.out.1).mono ?_
  rintro e w2 ⟨va, rfl, r2, h2⟩
  replace G := Aside0.mk (And.intro r2 (And.intro (G.out.2.1.below h2) (And.intro (blk_below G.out.2.2.1 h2) (below_step G.out.2.2.2 h2))))
  clear r2 h2
  go_wp2_with fail
  refine (MYA.out _ G.out.2.1).mono ?_
  rintro e w3 ⟨vb, rfl, r3, h3⟩
  replace G := Aside0.mk (And.intro (G.out.1.below h3) (And.intro r3 (And.intro (blk_below G.out.2.2.1 h3) (below_step G.out.2.2.2 h3))))
  have c0 : w3.cell? ⟨w.heap.size, 0, none⟩ = some (.int .i64 q0) := (blk_cell G.out.2.2.1 0).trans rfl
  have c1 : w3.cell? ⟨w.heap.size, 1, none⟩ = some (.int .i64 q1) := (blk_cell G.out.2.2.1 1).trans rfl
  clear r3 h3
  go_wp2_with fail
  refine (PCA.out _).mono ?_
  rintro e w4 ⟨rfl, h4⟩
  have hal := below_step h4 ((Below.refl _ w4).alloc (Nat.le_refl _) (.cells #[.int .i64 p0, .int .i64 p1] 26))
  replace G := Aside0.mk (And.intro (G.out.1.below hal) (And.intro (G.out.2.1.below hal) (And.intro (blk_new w4 (.cells #[.int .i64 p0, .int .i64 p1] 26)) (below_step G.out.2.2.2 hal))))
  clear c0 c1 h4 hal
  go_wp2_with fail
  refine (PK1.out _).mono ?_
  rintro e w5 ⟨rfl, h5⟩
  replace G := Aside0.mk (And.intro (G.out.1.below h5) (And.intro (G.out.2.1.below h5) (And.intro (blk_below G.out.2.2.1 h5) (below_step G.out.2.2.2 h5))))
  clear h5
  go_wp2_with fail
  refine (PK2.out _).mono ?_
  rintro e W ⟨rfl, h6⟩
  replace G := Aside0.mk (And.intro (G.out.1.below h6) (And.intro (G.out.2.1.below h6) (And.intro (blk_below G.out.2.2.1 h6) (below_step G.out.2.2.2 h6))))
  clear h6
  go_upto_region 9 with (fail)
  generalize w4.heap.size = gb at *
  go_cut [83, 84, 85] from 61 to 82 (fun s83 s84 s85 w' => ∃ g, s83 = .slice (some ⟨g, 0, none⟩) 5 5 ∧ s84 = .int .i64 5 ∧ s85 = .int .i64 0 ∧ Aside0 (w'.heap[g]? = some (.cells #[.int .i64 k0, .int .i64 k1, .int .i64 k2, .int .i64 k3, .int .i64 k4] 3 (0, 0))) ∧ Aside0 (Below W.heap.size W w'))
  case first =>
    obtain ⟨s1, s2, s3, s4⟩ := SS.out
    have HR := Aside0.mk (below_drew (Below.refl W.heap.size W))
    have d0 : W.cell? ⟨gb, 0, none⟩ = some (.int .i64 p0) := (blk_cell G.out.2.2.1 0).trans rfl
    have d1 : W.cell? ⟨gb, 1, none⟩ = some (.int .i64 p1) := (blk_cell G.out.2.2.1 1).trans rfl
    go_region_held3 (fun w' => w'.cell? ⟨gb, 0, none⟩ = some (.int .i64 p0) ∧ w'.cell? ⟨gb, 1, none⟩ = some (.int .i64 p1)) (first | exact ⟨d0, d1⟩ | exact ⟨cell_drew_far d0, cell_drew_far d1⟩ | exact ⟨cell_alloc_far d0 _, cell_alloc_far d1 _⟩)
      (first | (go_at_call 15; with_reducible refine (NA.out _ _ (G.out.1.below HR.out)).mono ?_; rintro e w1 ⟨rfl, h1⟩; replace HR := Aside0.mk (below_step HR.out h1); have d0 : w1.cell? ⟨gb, 0, none⟩ = some (.int .i64 p0) := (blk_cell (blk_below G.out.2.2.1 HR.out) 0).trans rfl; have d1 : w1.cell? ⟨gb, 1, none⟩ = some (.int .i64 p1) := (blk_cell (blk_below G.out.2.2.1 HR.out) 1).trans rfl; clear h1) | (go_at_call 15; with_reducible refine (NB.out _ _ (G.out.2.1.below HR.out)).mono ?_; rintro e w1 ⟨rfl, h1⟩; replace HR := Aside0.mk (below_step HR.out h1); have d0 : w1.cell? ⟨gb, 0, none⟩ = some (.int .i64 p0) := (blk_cell (blk_below G.out.2.2.1 HR.out) 0).trans rfl; have d1 : w1.cell? ⟨gb, 1, none⟩ = some (.int .i64 p1) := (blk_cell (blk_below G.out.2.2.1 HR.out) 1).trans rfl; clear h1) | (go_at_call 17; with_reducible refine (PKT.out _).mono ?_; rintro e w1 ⟨rfl, h1⟩; replace HR := Aside0.mk (below_step HR.out h1); have d0 : w1.cell? ⟨gb, 0, none⟩ = some (.int .i64 p0) := (blk_cell (blk_below G.out.2.2.1 HR.out) 0).trans rfl; have d1 : w1.cell? ⟨gb, 1, none⟩ = some (.int .i64 p1) := (blk_cell (blk_below G.out.2.2.1 HR.out) 1).trans rfl; clear h1) | (go_at_call 17; with_reducible refine (PKM.out _).mono ?_; rintro e w1 ⟨rfl, h1⟩; replace HR := Aside0.mk (below_step HR.out h1); have d0 : w1.cell? ⟨gb, 0, none⟩ = some (.int .i64 p0) := (blk_cell (blk_below G.out.2.2.1 HR.out) 0).trans rfl; have d1 : w1.cell? ⟨gb, 1, none⟩ = some (.int .i64 p1) := (blk_cell (blk_below G.out.2.2.1 HR.out) 1).trans rfl; clear h1))
    all_goals (go_wp2_with fail; go_meet)
    all_goals exact ⟨w1.heap.size, rfl, rfl, rfl, ⟨blk_new w1 _⟩, ⟨HR.out.alloc HR.out.size _⟩⟩
  case rest =>
    obtain ⟨g, rfl, rfl, rfl, HN, HBr⟩ := hcut
    replace G := Aside0.mk (And.intro (G.out.1.below HBr.out) (And.intro (G.out.2.1.below HBr.out) (And.intro (blk_below G.out.2.2.1 HBr.out) (And.intro (below_step G.out.2.2.2 HBr.out) HN.out))))
    clear HN HBr NA NB SS PCA PK1 PK2 PKM PKT MXA MYA
    go_wp2_with fail
    go_loopg [20, 85] 5 (fun kq v20 v85 wr => ∃ (i : Nat), v85 = .int .i64 (i : Int) ∧ Aside0 (i + kq = 5) ∧ Aside0 (Below wc.heap.size wc wr))
    case atStart => exact ⟨0, rfl, ⟨by omega⟩, ⟨Below.refl _ _⟩⟩
    case round =>
      obtain ⟨i, rfl, HK, HBr⟩ := hrel
      by_cases hi : i < 5
      · obtain ⟨k, c0⟩ := Rw.idx5 (blk_below G.out.2.2.2.2 HBr.out) i hi
        obtain ⟨x, y, ib, yb, xb, kb, mb, HA⟩ := HV.out k
        have hib : decide ((i : Int) < 5) = true := decide_eq_true (by omega)
        have q1 := eq_true (show (i : Int) < 5 by omega)
        have q2 := eq_true (show (0 : Int) ≤ (i : Int) by omega)
        have i9 : i ≤ 1000 := by omega
        have HI := Aside0.mk (And.intro hi HA)
        have d0 : wr.cell? ⟨gb, 0, none⟩ = some (.int .i64 p0) := (blk_cell (blk_below G.out.2.2.1 HBr.out) 0).trans rfl
        have d1 : wr.cell? ⟨gb, 1, none⟩ = some (.int .i64 p1) := (blk_cell (blk_below G.out.2.2.1 HBr.out) 1).trans rfl
        clear hi HA
        go_wp2_with fail
        refine (giveV (G.out.1.below HBr.out) p0 p1 t gv 0 GV1.out).mono ?_
        rintro e y1 ⟨vg, rfl, rg, h1⟩
        replace HBr := Aside0.mk (below_step HBr.out h1)
        clear d0 d1 c0 h1
        have d0 : y1.cell? ⟨gb, 0, none⟩ = some (.int .i64 p0) := (blk_cell (blk_below G.out.2.2.1 HBr.out) 0).trans rfl
        have d1 : y1.cell? ⟨gb, 1, none⟩ = some (.int .i64 p1) := (blk_cell (blk_below G.out.2.2.1 HBr.out) 1).trans rfl
        go_wp2_with fail
        refine (takeV (G.out.1.below HBr.out) p0 p1 ls 0 LS1.out).mono ?_
        rintro e y2 ⟨vl, rfl, rl, h1⟩
        replace HBr := Aside0.mk (below_step HBr.out h1)
        have R := Aside0.mk (And.intro (rg.below h1) rl)
        clear d0 d1 rg rl h1
        have d0 : y2.cell? ⟨gb, 0, none⟩ = some (.int .i64 p0) := (blk_cell (blk_below G.out.2.2.1 HBr.out) 0).trans rfl
        have d1 : y2.cell? ⟨gb, 1, none⟩ = some (.int .i64 p1) := (blk_cell (blk_below G.out.2.2.1 HBr.out) 1).trans rfl
        go_wp2_with fail
        refine (onlyV (G.out.1.below HBr.out) p0 p1 pt 0 PT1.out).mono ?_
        rintro e y3 ⟨vp, rfl, rp, h1⟩
        replace HBr := Aside0.mk (below_step HBr.out h1)
        replace R := Aside0.mk (And.intro (R.out.1.below h1) (And.intro (R.out.2.below h1) rp))
        clear d0 d1 rp h1
        go_wp2_with fail
        refine (overlayV (G.out.1.below HBr.out) (G.out.2.1.below HBr.out) ov 0 OV1.out).mono ?_
        rintro e y4 ⟨vo, rfl, ro, h1⟩
        replace HBr := Aside0.mk (below_step HBr.out h1)
        replace R := Aside0.mk (And.intro (R.out.1.below h1) (And.intro (R.out.2.1.below h1) (And.intro (R.out.2.2.below h1) ro)))
        clear ro h1
        go_wp2_with fail
        refine (swapV (G.out.1.below HBr.out) f t sw 0 SW1.out).mono ?_
        rintro e y5 ⟨vs, rfl, rs, h1⟩
        replace R := Aside0.mk (And.intro (R.out.1.below h1) (And.intro (R.out.2.1.below h1) (And.intro (R.out.2.2.1.below h1) (And.intro (R.out.2.2.2.below h1) (And.intro rs (below_step HBr.out h1))))))
        replace HBr := Aside0.mk (Below.refl y5.heap.size y5)
        clear rs h1
        go_wp2_with fail
        refine (validV (R.out.1.below HBr.out) true GV2.out).mono ?_
        rintro e z1 ⟨rfl, h1⟩
        replace HBr := Aside0.mk (below_step HBr.out h1)
        clear h1
        go_wp2_with fail
        refine (validV (R.out.2.1.below HBr.out) true LS2.out).mono ?_
        rintro e z2 ⟨rfl, h1⟩
        replace HBr := Aside0.mk (below_step HBr.out h1)
        clear h1
        go_wp2_with fail
        refine (validV (R.out.2.2.1.below HBr.out) true PT2.out).mono ?_
        rintro e z3 ⟨rfl, h1⟩
        replace HBr := Aside0.mk (below_step HBr.out h1)
        clear h1
        go_wp2_with fail
        refine (validV (R.out.2.2.2.1.below HBr.out) true OV2.out).mono ?_
        rintro e z4 ⟨rfl, h1⟩
        replace HBr := Aside0.mk (below_step HBr.out h1)
        clear h1
        go_wp2_with fail
        refine (validV (R.out.2.2.2.2.1.below HBr.out) true SW2.out).mono ?_
        rintro e z5 ⟨rfl, h1⟩
        replace HBr := Aside0.mk (below_step HBr.out h1)
        clear h1
        go_wp2_with fail
        refine (holderV (G.out.1.below (below_step R.out.2.2.2.2.2 HBr.out)) k x ((holderL_valid VA.out k).trans HI.out.2.hx)).mono ?_
        rintro e z6 ⟨rfl, h1⟩
        replace HBr := Aside0.mk (below_step HBr.out h1)
        clear h1
        have d0 : z6.cell? ⟨gb, 0, none⟩ = some (.int .i64 p0) := (blk_cell (blk_below G.out.2.2.1 (below_step R.out.2.2.2.2.2 HBr.out)) 0).trans rfl
        have d1 : z6.cell? ⟨gb, 1, none⟩ = some (.int .i64 p1) := (blk_cell (blk_below G.out.2.2.1 (below_step R.out.2.2.2.2.2 HBr.out)) 1).trans rfl
        go_wp2_with fail
        clear d0 d1
        refine (in_callsV p0 p1 k ib HI.out.2.hib _).mono ?_
        rintro e z7 ⟨rfl, h1⟩
        replace HBr := Aside0.mk (below_step HBr.out h1)
        clear h1
        go_upto_if 171 with (fail)
        go_cut [32, 33, 34] from 171 to 173 (fun s32 s33 s34 w' => s32 = .int .i64 (sel ib t x) ∧ s33 = .int .i64 (sel ib (-1) x) ∧ s34 = .int .i64 (sel ib x (-1)) ∧ Aside0 (Below y5.heap.size y5 w'))
        case first =>
          cases ib with
          | true =>
            go_wp2_with fail
            go_meet
            case rel => exact ⟨rfl, rfl, rfl, HBr⟩
          | false =>
            go_wp2_with fail
            go_meet
            case rel => exact ⟨rfl, rfl, rfl, HBr⟩
        case rest =>
          obtain ⟨rfl, rfl, rfl, HC⟩ := hcut
          replace HBr := HC
          clear HC
          have hyb := HI.out.2.hyb
          go_wp2_with fail
          refine (holderV (G.out.2.1.below (below_step R.out.2.2.2.2.2 HBr.out)) k y ((holderL_valid VB.out k).trans HI.out.2.hy)).mono ?_
          rintro e z8 ⟨rfl, h1⟩
          replace HBr := Aside0.mk (below_step HBr.out h1)
          clear h1
          go_upto_if 178 with (fail)
          clear hyb
          go_cut [35] from 178 to 181 (fun s35 w' => s35 = .int .i64 (sel yb y x) ∧ Aside0 (Below y5.heap.size y5 w'))
          case first =>
            cases yb with
            | true =>
              go_wp2_with fail
              refine (holderV (G.out.2.1.below (below_step R.out.2.2.2.2.2 HBr.out)) k y ((holderL_valid VB.out k).trans HI.out.2.hy)).mono ?_
              rintro e wz ⟨rfl, h1⟩
              replace HBr := Aside0.mk (below_step HBr.out h1)
              clear h1
              go_wp2_with fail
              go_meet
              case rel => exact ⟨rfl, HBr⟩
            | false =>
              go_wp2_with fail
              go_meet
              case rel => exact ⟨rfl, HBr⟩
          case rest =>
            obtain ⟨rfl, HC⟩ := hcut
            replace HBr := HC
            clear HC
            have hxb := HI.out.2.hxb
            go_upto_if 185 with (fail)
            clear hxb
            go_cut [36] from 185 to 186 (fun s36 w' => s36 = .int .i64 (sel xb t x) ∧ Aside0 (Below y5.heap.size y5 w'))
            case first =>
              cases xb with
              | true =>
                go_wp2_with fail
                go_meet
                case rel => exact ⟨rfl, HBr⟩
              | false =>
                go_wp2_with fail
                go_meet
                case rel => exact ⟨rfl, HBr⟩
            case rest =>
              obtain ⟨rfl, HC⟩ := hcut
              replace HBr := HC
              clear HC
              go_upto_region 33 with (fail)
              go_cut [192] from 187 to 191 (fun s192 w' => s192 = .bool (kb || mb) ∧ Aside0 (Below y5.heap.size y5 w'))
              case first =>
                have hkb := HI.out.2.hkb
                have hmb := HI.out.2.hmb
                cases kb with
                | true =>
                  go_wp2_with fail
                  go_meet
                  case rel => exact ⟨rfl, HBr⟩
                | false =>
                  go_wp2_with fail
                  go_meet
                  case rel => exact ⟨rfl, HBr⟩
              case rest =>
                obtain ⟨rfl, HC⟩ := hcut
                replace HBr := HC
                clear HC
                generalize hob : (kb || mb) = ob
                have HO := Aside0.mk hob
                clear hob
                go_upto_if 192 with (fail)
                go_cut [32] from 192 to 192 (fun s32 w' => s32 = .int .i64 (sel ob (-1) (sel ib t x)) ∧ Aside0 (Below y5.heap.size y5 w'))
                case first =>
                  cases ob with
                  | true =>
                    go_wp2_with fail
                    go_meet
                    case rel => exact ⟨rfl, HBr⟩
                  | false =>
                    go_wp2_with fail
                    go_meet
                    case rel => exact ⟨rfl, HBr⟩
                case rest =>
                  obtain ⟨rfl, HC⟩ := hcut
                  replace HBr := HC
                  clear HC
                  go_wp2_with fail
                  refine (holderV (R.out.1.below HBr.out) k (sel ob (-1) (sel ib t x)) ((holderL_valid GV2.out k).trans (HO.out ▸ HI.out.2.e1))).mono ?_
                  rintro e z9 ⟨rfl, h1⟩
                  replace HBr := Aside0.mk (below_step HBr.out h1)
                  clear h1
                  go_wp2_with fail
                  refine (holderV (R.out.2.1.below HBr.out) k (sel ib (-1) x) ((holderL_valid LS2.out k).trans (HI.out.2.e2))).mono ?_
                  rintro e z10 ⟨rfl, h1⟩
                  replace HBr := Aside0.mk (below_step HBr.out h1)
                  clear h1
                  go_wp2_with fail
                  refine (holderV (R.out.2.2.1.below HBr.out) k (sel ib x (-1)) ((holderL_valid PT2.out k).trans (HI.out.2.e3))).mono ?_
                  rintro e z11 ⟨rfl, h1⟩
                  replace HBr := Aside0.mk (below_step HBr.out h1)
                  clear h1
                  go_wp2_with fail
                  refine (holderV (R.out.2.2.2.1.below HBr.out) k (sel yb y x) ((holderL_valid OV2.out k).trans (HI.out.2.e4))).mono ?_
                  rintro e z12 ⟨rfl, h1⟩
                  replace HBr := Aside0.mk (below_step HBr.out h1)
                  clear h1
                  go_wp2_with fail
                  refine (holderV (R.out.2.2.2.2.1.below HBr.out) k (sel xb t x) ((holderL_valid SW2.out k).trans (HI.out.2.e5))).mono ?_
                  rintro e z13 ⟨rfl, h1⟩
                  replace HBr := Aside0.mk (below_step HBr.out h1)
                  clear h1
                  go_wp2_with fail
                  go_roundg (5 - (i + 1))
                  case measure => have := HK.out; have := HI.out.1; omega
                  case rel => exact ⟨i + 1, by go_num, ⟨by have := HK.out; have := HI.out.1; omega⟩, ⟨(below_step R.out.2.2.2.2.2 HBr.out)⟩⟩
      · have hib : decide ((i : Int) < 5) = false := decide_eq_false (by omega)
        have q1 := eq_false (show ¬ (i : Int) < 5 by omega)
        clear hi
        go_wp2_with fail
        go_ret
        exact ⟨rfl, below_step G.out.2.2.2.1 HBr.out⟩

theorem blockPointwise_calls (xs ys : List (Int × Int × Int)) (A B : Option Addr) (ca cb : Nat) (q0 q1 fr to' wh n : Int) (w : World) (hx : Trip w A xs) (hy : Trip w B ys) (hca : xs.length ≤ ca) (hcb : ys.length ≤ cb)
    (h0 : I64 q0) (h1 : I64 q1) (h2 : I64 fr) (h3 : I64 to') (h4 : I64 wh) (h5 : I64 n) :
    Calls Try.prog 4 #[.slice A xs.length ca, .slice B ys.length cb, .agg #[.int .i64 q0, .int .i64 q1], .int .i64 fr, .int .i64 to', .int .i64 wh, .int .i64 n] w fun e w' => e = .returned (.bool true) ∧ Below w.heap.size w w' := by
  obtain ⟨EA, ea_, va_, ca_⟩ := made_spec (xs.take 10) 10 (by rw [List.length_take]; omega) (by omega)
  obtain ⟨EB, eb_, vb_, cb_⟩ := made_spec (ys.take 8) 8 (by rw [List.length_take]; omega) (by omega)
  have PR := piece_range q0 q1
  have PR' := PR
  simp only [rangeB, Bool.and_eq_true, decide_eq_true_eq] at PR'
  have c1_ := carr_pick8 fr
  have c2_ := carr_pick8 to'
  have z3_ := pickP_range n 3 (by omega)
  obtain ⟨gv, g1, g2, g3, _⟩ := give_spec va_ ca_ PR c2_ (by omega)
  obtain ⟨ls, l1, l2, l3, _⟩ := take_spec va_ ca_ PR (by omega)
  obtain ⟨pt, t1, t2, t3, _⟩ := only_spec va_ ca_ PR (by omega)
  obtain ⟨ov, o1, o2, o3, _⟩ := overlay_spec va_ ca_ vb_ cb_ (by omega)
  obtain ⟨sw, s1, s2, s3, _⟩ := swap_spec va_ ca_ c1_ c2_ (by omega)
  have PC := fun w' => piece_calls q0 q1 w' h0 h1
  generalize hp : pieceP q0 q1 = p at *
  obtain ⟨p0, p1⟩ := p
  simp only at PR' g1 g3 l1 l3 t1 t3
  exact pointwise_walk xs ys A B ca cb (min xs.length 10) (min ys.length 8) q0 q1 fr to' wh n p0 p1 _ _ _ _ _ _ _ _ _ _ gv ls pt ov sw w ⟨hx, hy⟩
    (by omega) (eq_true (by omega)) (eq_true (by omega)) (by omega) (eq_true (by omega)) (eq_true (by omega))
    ⟨fun w' h => madeTV h ca hca 10 _ (by omega) rfl⟩ ⟨fun w' h => madeTV h cb hcb 8 _ (by omega) rfl⟩ ⟨PC⟩
    ⟨fun w' => pickV fr 8 w' h2 (by omega)⟩ ⟨fun w' => pickV to' 8 w' h3 (by omega)⟩ ⟨fun w' => pickV n 100000000 w' h5 (by omega)⟩ ⟨fun w' => pickV n 3 w' h5 (by omega)⟩
    ⟨fun w' v h => nearV h va_ wh n h4 h5⟩ ⟨fun w' v h => nearV h vb_ wh n h4 h5⟩
    ⟨IntWalk.i64_in _ (by omega), IntWalk.i64_in _ (by omega), IntWalk.i64_in _ (by omega), IntWalk.i64_in _ (by omega)⟩
    ⟨g1⟩ ⟨l1⟩ ⟨t1⟩ ⟨o1⟩ ⟨s1⟩ ⟨va_⟩ ⟨vb_⟩ ⟨g2⟩ ⟨l2⟩ ⟨t2⟩ ⟨o2⟩ ⟨s2⟩ ⟨fun k => at_facts vb_ g2 g3 l3 t3 o3 s3 k⟩
end Go.Proofs.Ytdflgjgoikofaaa.Bk

namespace Go.Proofs.Ytdflgjgoikofaaa.blockPointwise
open Go.ChangeShapes Go.WideShapes Go.ChangeAt Go.RowKit
open Go.ChangeMaps (open_string shut_string)
set_option linter.unusedVariables false

theorem own : ownKnob Try.prog.godebug = none := by kernel_rfl
theorem laidOut : laidOutB Try.prog = true := by kernel_rfl

set_option maxRecDepth 100000 in
theorem lifted (os : Os) (started : os.Started) (H : Type) (enc : TypeId × Value → H) :
    ReturnsInHanded {} Try.checked os 4 .any (Rows.blockPointwiseSpec.pre6 enc Try.prog Try.f4 Rows.blockPointwiseRow.domain false) (Rows.blockPointwiseSpec.post enc Try.prog Try.f4 false true false false) := by
  refine returnsInHanded_of_change (C := Try.checked) own started (by kernel_rfl) Try.func4
    (ChangeSpec.witness6 (enc := enc) (C := Try.checked) false ⟨#[], #[.slice none 0 0, .slice none 0 0, .agg #[.int .i64 0, .int .i64 0], .int .i64 0, .int .i64 0, .int .i64 0, .int .i64 0], []⟩ 8 (by kernel_rfl) (by kernel_rfl) (by kernel_rfl) (by kernel_rfl)) ?_
  intro W base args ds gs before hval0 hW hcnd _
  have hval : ∀ (j : Nat) t v, Try.f4.params[j]? = some t → args[j]? = some v → Value.okWide Try.prog W .any base t v := hval0
  have hW' := hW
  obtain ⟨p, q, hA0, hV, rfl, hfz, hnd⟩ := hW
  have hA : DataW.TrodAll enc Try.prog W 0 (fun _ => true) true Try.f4.params.toList args.toList ds p := hA0
  rw [Try.params4] at hA hval
  obtain ⟨v0, vs0, d0, ds0, p0, q0, hargs, rfl, rfl, h0, r0⟩ := trodAll_cons hA
  obtain ⟨v1, vs1, d1, ds1, p1, q1, rfl, rfl, rfl, h1, r1⟩ := trodAll_cons r0
  obtain ⟨v2, vs2, d2, ds2, p2, q2, rfl, rfl, rfl, h2, r2⟩ := trodAll_cons r1
  obtain ⟨v3, vs3, d3, ds3, p3, q3, rfl, rfl, rfl, h3, r3⟩ := trodAll_cons r2
  obtain ⟨v4, vs4, d4, ds4, p4, q4, rfl, rfl, rfl, h4, r4⟩ := trodAll_cons r3
  obtain ⟨v5, vs5, d5, ds5, p5, q5, rfl, rfl, rfl, h5, r5⟩ := trodAll_cons r4
  obtain ⟨v6, vs6, d6, ds6, p6, q6, rfl, rfl, rfl, h6, r6⟩ := trodAll_cons r5
  obtain ⟨rfl, rfl, rfl⟩ := trodAll_nil r6
  obtain rfl : args = #[v0, v1, v2, v3, v4, v5, v6] := by cases args; simp_all
  obtain ⟨rfl, rfl⟩ := trodVars_none hV
  obtain ⟨a0, len0, cap0, rfl⟩ := okWide_slice Try.underlying22 (hval 0 22 v0 rfl rfl)
  have k0 := h0
  have lt0 : ∀ x ∈ p0, x.block < W.heap.size := by obtain ⟨m, hm⟩ := k0; exact DataW.trod_lt m _ _ _ hm
  obtain ⟨xs0, rfl, c0, l0, w0⟩ : ∃ xs : List (Int × Int × Int), xs.length = len0 ∧ len0 ≤ cap0 ∧ len0 ≤ maxLen ∧ Bk.Trip W a0 xs := by
    obtain ⟨fuel, hf⟩ := h0
    exact Bk.trip_of_trod hf
  obtain ⟨a1, len1, cap1, rfl⟩ := okWide_slice Try.underlying22 (hval 1 22 v1 rfl rfl)
  have k1 := h1
  have lt1 : ∀ x ∈ p1, x.block < W.heap.size := by obtain ⟨m, hm⟩ := k1; exact DataW.trod_lt m _ _ _ hm
  obtain ⟨xs1, rfl, c1, l1, w1⟩ : ∃ xs : List (Int × Int × Int), xs.length = len1 ∧ len1 ≤ cap1 ∧ len1 ≤ maxLen ∧ Bk.Trip W a1 xs := by
    obtain ⟨fuel, hf⟩ := h1
    exact Bk.trip_of_trod hf
  have k2 := h2
  have lt2 : ∀ x ∈ p2, x.block < W.heap.size := by obtain ⟨m, hm⟩ := k2; exact DataW.trod_lt m _ _ _ hm
  obtain ⟨a2, b2, rfl, w2, u2⟩ := Bk.open_two (hval 2 35 v2 rfl rfl) h2
  obtain ⟨a3, rfl, rfl, rfl, w3⟩ := open_int Try.underlying3 (hval 3 3 v3 rfl rfl) h3
  obtain ⟨a4, rfl, rfl, rfl, w4⟩ := open_int Try.underlying3 (hval 4 3 v4 rfl rfl) h4
  obtain ⟨a5, rfl, rfl, rfl, w5⟩ := open_int Try.underlying3 (hval 5 3 v5 rfl rfl) h5
  obtain ⟨a6, rfl, rfl, rfl, w6⟩ := open_int Try.underlying3 (hval 6 3 v6 rfl rfl) h6
  clear hA0 hval0
  refine (Bk.blockPointwise_calls xs0 xs1 a0 a1 cap0 cap1 a2 b2 a3 a4 a5 a6 W w0 w1 c0 c1 w2 u2 (Bk.I64_of_wf w3) (Bk.I64_of_wf w4) (Bk.I64_of_wf w5) (Bk.I64_of_wf w6)).mono fun e W' ⟨he, bel⟩ => ?_
  subst he
  exact ⟨_, rfl, _, _, _, [], _, [], hW', trodAll_mk1 (shut_bool Try.underlying4 _), (trodAll_cons_mk (Below.trod laidOut (by kernel_rfl) (of_decide_eq_true (by kernel_rfl)) k0 bel lt0) (trodAll_cons_mk (Below.trod laidOut (by kernel_rfl) (of_decide_eq_true (by kernel_rfl)) k1 bel lt1) (trodAll_cons_mk (Below.trod laidOut (by kernel_rfl) (of_decide_eq_true (by kernel_rfl)) k2 bel lt2) (trodAll_cons_mk (shut_int Try.underlying3 w3) (trodAll_cons_mk (shut_int Try.underlying3 w4) (trodAll_cons_mk (shut_int Try.underlying3 w5) (trodAll_cons_mk (shut_int Try.underlying3 w6) trodAll_mk0))))))), rfl, bel.frame _, fun h => by cases h⟩

theorem over : Rows.blockPointwiseRow.holds Try.pinned (OpenSpec.ofChange Rows.blockPointwiseSpec) :=
  OpenClaim.holds_of_wide 4 Try.f4 rfl rfl rfl rfl rfl rfl rfl ⟨rfl, rfl, rfl, rfl, rfl⟩ rfl rfl rfl rfl rfl (by kernel_rfl) Try.func4 (by kernel_rfl)
    (of_decide_eq_true (by kernel_rfl)) (by unfold Func.isWrapper; first | (rw [if_pos (by decide +kernel)]; kernel_rfl) | (rw [if_neg (by decide +kernel)]; exact ⟨rfl, rfl⟩))
    (fun os started H enc _ => lifted os started H enc)

theorem proved : Rows.BlockPointwiseSaid := over
#print axioms proved
end Go.Proofs.Ytdflgjgoikofaaa.blockPointwise
