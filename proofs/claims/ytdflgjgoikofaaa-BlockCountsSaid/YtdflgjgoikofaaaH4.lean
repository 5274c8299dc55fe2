/- Proved: the law BlockCounts of package block returns true at every input, and changes none; no condition. -/
import Derived.Test.YtdflgjgoikofaaaZ6
import Derived.Test.YtdflgjgoikofaaaZ7
import Derived.Test.YtdflgjgoikofaaaRows
import Derived.WalkKit
import Derived.ProofKit
import Derived.OpenShut
import Derived.ShutString
import Derived.ChangeOld
import Derived.Below
set_option linter.unusedVariables false
set_option linter.unusedSimpArgs false
set_option linter.unusedVariables false
namespace Go.Proofs.Ytdflgjgoikofaaa.Bk
open Go.RowKit Go.Shelf Go.Proofs.YtdflgjgoikofaaaW.PrintWords Go.Proofs.YtdflgjgoikofaaaW.PrintLast Go.Proofs.YtdflgjgoikofaaaW.PrintMore
open Go.Proofs.Ytdflgjgoikofaaa.Ref Go.Proofs.Ytdflgjgoikofaaa.Pl Go.Proofs.Ytdflgjgoikofaaa.Rg

theorem nearV {l : List S53} {v : Value} {w : World} (h : Rw w l v) (hv : validP l = true) (which n : Int) (hw : I64 which) (hn : I64 n) : Calls Try.prog 15 #[v, .int .i64 which, .int .i64 n] w fun e w' => e = .returned (.int .i64 (nearP l which n)) ∧ Below w.heap.size w w' := by
  obtain ⟨A, c, rfl, hc, hC⟩ := h
  exact dialtoneref13_Near.calls 2 A c l which n _ w hC hc (Near_f l which n hv hw hn 2 (by omega))
theorem pickV (c n : Int) (w : World) (hc : I64 c) (hn : 0 < n) : Calls Try.prog 17 #[.int .i64 c, .int .i64 n] w fun e w' => e = .returned (.int .i64 (pickP c n)) ∧ Below w.heap.size w w' :=
  (dialtonelaw13_pick.calls c n _ w (pick_law c n hc hn)).mono fun e w' h => by
    obtain ⟨h1, q, rfl⟩ := h
    exact ⟨h1, pw_below_drewN (Below.refl _ _) q⟩
theorem madeV (xs : List (Int × Int × Int)) (A : Option Addr) (c : Nat) (w : World) (hx : Trip w A xs) (hc : xs.length ≤ c) (hn : xs.length ≤ 9223372036854775807) :
    Calls Try.prog 12 #[.slice A xs.length c] w fun e w' => ∃ v, e = .returned v ∧ Rw w' (madeP xs) v ∧ Below w.heap.size w w' :=
  (made_calls xs A c w hx hc hn).mono fun e w' h => by
    obtain ⟨A', c', rfl, h1, h2, h3⟩ := h
    exact ⟨_, rfl, ⟨A', c', rfl, h2, h1⟩, h3⟩
theorem Trip.below {w w' : World} {A : Option Addr} {xs : List (Int × Int × Int)} (h : Trip w A xs) (hb : Below w.heap.size w w') : Trip w' A xs :=
  ⟨h.1, fun h0 => by
    obtain ⟨ad, rfl, h2⟩ := h.2 h0
    exact ⟨ad, rfl, fun i hi => ⟨pw_cell_below hb (h2 i hi).1, pw_cell_below hb (h2 i hi).2.1, pw_cell_below hb (h2 i hi).2.2⟩⟩⟩

set_option maxHeartbeats 8000000 in
set_option maxRecDepth 100000 in
theorem blockFree_calls (xs : List (Int × Int × Int)) (A : Option Addr) (c : Nat) (which n t btw : Int) (w : World) (hx : Trip w A xs) (hc : xs.length ≤ c) (hl : xs.length ≤ 9223372036854775807) (hwh : I64 which) (hn : I64 n) (ht : I64 t) (hb : I64 btw) :
    Calls Try.prog 10 #[.slice A xs.length c, .int .i64 which, .int .i64 n, .int .i64 t, .int .i64 btw] w fun e w' => e = .returned (.bool true) ∧ Below w.heap.size w w' := by
  have HX := Aside0.mk hx
  have HC := Aside0.mk hc
  have HL := Aside0.mk hl
  have HWH := Aside0.mk hwh
  have HN := Aside0.mk hn
  have HT := Aside0.mk ht
  have HBT := Aside0.mk hb
  clear hx hc hl hwh hn ht hb
  obtain ⟨E, e1, e2, e3⟩ := made_spec12 xs
  have HE1 := Aside0.mk e1
  have HE2 := Aside0.mk e2
  have HE3 := Aside0.mk e3
  clear e1 e2 e3
  go_enter Try.func10, Try.ntmps10
  go_wp2_with fail
  refine (sane_calls _).mono ?_
  rintro e w1 ⟨rfl, h1⟩
  have HB := Aside0.mk h1
  clear h1
  go_wp2_with fail
  refine (madeV xs A c _ (HX.out.below HB.out) HC.out HL.out).mono ?_
  rintro e w2 ⟨v, rfl, r2, h2⟩
  generalize madeP xs = a at *
  have RA := Aside0.mk r2
  replace HB := Aside0.mk (below_step HB.out h2)
  clear h2 r2
  go_wp2_with fail
  refine (nearV RA.out HE2.out which n HWH.out HN.out).mono ?_
  rintro e w3 ⟨rfl, h3⟩
  replace RA := Aside0.mk (RA.out.below h3)
  replace HB := Aside0.mk (below_step HB.out h3)
  clear h3
  generalize nearP a which n = k
  by_cases hk : 0 ≤ k ∧ k ≤ 99999999
  · obtain ⟨k0, k1⟩ := hk
    have b0 : decide (k < 0) = false := decide_eq_false (by omega)
    have b1 : decide (99999999 < k) = false := decide_eq_false (by omega)
    rcases free_spec HE2.out ⟨k0, k1⟩ with ⟨f1, f2⟩ | ⟨m, f1, f2, f3, f4, f5⟩
    · have F1 := Aside0.mk f1
      have hp := pickP_range btw (100000000 - k) (by omega)
      have hh := f2 (k + pickP btw (100000000 - k)) (by omega) (by omega)
      have HP := Aside0.mk hp
      have HH := Aside0.mk hh
      have hpos : 0 < 100000000 - k := by omega
      clear f1 f2 hh
      go_wp2_with fail
      refine (freeV RA.out k 0 false F1.out).mono ?_
      rintro e w4 ⟨rfl, h4⟩
      replace RA := Aside0.mk (RA.out.below h4)
      replace HB := Aside0.mk (below_step HB.out h4)
      clear h4
      go_wp2_with fail
      refine (pickV btw _ _ HBT.out hpos).mono ?_
      rintro e w5 ⟨rfl, h5⟩
      replace RA := Aside0.mk (RA.out.below h5)
      replace HB := Aside0.mk (below_step HB.out h5)
      clear h5
      generalize pickP btw (100000000 - k) = z at *
      go_wp2_with fail
      refine (holderV RA.out _ (hold a (k + z)) (holderL_valid HE2.out _)).mono ?_
      rintro e w6 ⟨rfl, h6⟩
      replace HB := Aside0.mk (below_step HB.out h6)
      clear h6
      have hz : decide (0 ≤ hold a (k + z)) = true := decide_eq_true HH.out
      generalize hold a (k + z) = y at *
      go_wp2_with fail
      go_ret
      exact ⟨rfl, HB.out⟩
    · have F1 := Aside0.mk f1
      have F4 := Aside0.mk f4
      replace f5 := Aside0.mk f5
      have K0 := Aside0.mk (And.intro k0 (And.intro k1 (And.intro f2 f3)))
      have b2 : decide (m < k) = false := decide_eq_false (by omega)
      have b3 : decide (99999999 < m) = false := decide_eq_false (by omega)
      clear f1 f4
      go_wp2_with fail
      refine (freeV RA.out k m true F1.out).mono ?_
      rintro e w4 ⟨rfl, h4⟩
      replace RA := Aside0.mk (RA.out.below h4)
      replace HB := Aside0.mk (below_step HB.out h4)
      clear h4
      go_wp2_with fail
      refine (holderV RA.out m (-1) ((holderL_valid HE2.out _).trans F4.out)).mono ?_
      rintro e w5 ⟨rfl, h5⟩
      replace RA := Aside0.mk (RA.out.below h5)
      replace HB := Aside0.mk (below_step HB.out h5)
      clear h5
      by_cases hkm : k < m
      · have b4 : decide (k < m) = true := decide_eq_true hkm
        have hpos : 0 < m - k := by omega
        have hp := pickP_range btw (m - k) hpos
        have hh := f5.out (k + pickP btw (m - k)) (by omega) (by omega)
        have HH := Aside0.mk hh
        clear hh
        go_wp2_with fail
        refine (pickV btw _ _ HBT.out hpos).mono ?_
        rintro e w6 ⟨rfl, h6⟩
        replace RA := Aside0.mk (RA.out.below h6)
        replace HB := Aside0.mk (below_step HB.out h6)
        clear h6
        generalize pickP btw (m - k) = z at *
        go_wp2_with fail
        refine (holderV RA.out _ (hold a (k + z)) (holderL_valid HE2.out _)).mono ?_
        rintro e wh ⟨rfl, hh6⟩
        replace RA := Aside0.mk (RA.out.below hh6)
        replace HB := Aside0.mk (below_step HB.out hh6)
        clear hh6
        have hz : decide (hold a (k + z) < 0) = false := decide_eq_false (by have := HH.out; omega)
        generalize hold a (k + z) = y at *
        go_wp2_with fail
        refine (pickV t 8 _ HT.out (by omega)).mono ?_
        rintro e w7 ⟨rfl, h7⟩
        replace RA := Aside0.mk (RA.out.below h7)
        replace HB := Aside0.mk (below_step HB.out h7)
        clear h7
        obtain ⟨out, g1, g2, g3, g4⟩ := give_spec HE2.out HE3.out (f := m) (t := m + 1) (c := pickP t 8) (by simp only [rangeB, Bool.and_eq_true, decide_eq_true_eq]; omega) (carr_pick8 t) (by have := HE1.out; omega)
        have hp8 := pickP_range t 8 (by omega)
        generalize pickP t 8 = c8 at *
        have G1 := Aside0.mk g1
        have G2 := Aside0.mk g2
        have hfree := free_spec g2 (n := k) (by have := K0.out; omega)
        have hcase : freeP out k = (0, false) ∨ ∃ j, freeP out k = (j, true) ∧ m < j := by
          rcases hfree with ⟨q1, _⟩ | ⟨j, q1, q2, q3, q4, _⟩
          · exact .inl q1
          · refine .inr ⟨j, q1, ?_⟩
            rw [g3 j] at q4
            by_cases hj : m ≤ j ∧ j < m + 1
            · rw [if_pos hj] at q4; omega
            · rw [if_neg hj] at q4
              by_cases hlt : j < m
              · have := f5.out j q2 hlt; omega
              · omega
        have HCASE := Aside0.mk hcase
        clear g1 g2 g3 g4 hfree hp8 hcase
        go_wp2_with fail
        refine (giveV RA.out m (m + 1) c8 out 0 G1.out).mono ?_
        rintro e w8 ⟨v8, rfl, r8, h8⟩
        have RO := Aside0.mk r8
        replace HB := Aside0.mk (below_step HB.out h8)
        clear r8 h8
        go_wp2_with fail
        rcases HCASE.out with q1 | ⟨j, q1, q2⟩
        · have Q1 := Aside0.mk q1
          clear q1
          refine (freeV RO.out k 0 false Q1.out).mono ?_
          rintro e w9 ⟨rfl, h9⟩
          replace HB := Aside0.mk (below_step HB.out h9)
          clear h9
          go_wp2_with fail
          go_ret
          exact ⟨rfl, HB.out⟩
        · have Q1 := Aside0.mk q1
          have hjb : decide (m < j) = true := decide_eq_true q2
          clear q1 q2
          refine (freeV RO.out k j true Q1.out).mono ?_
          rintro e w9 ⟨rfl, h9⟩
          replace HB := Aside0.mk (below_step HB.out h9)
          clear h9
          go_wp2_with fail
          go_ret
          exact ⟨rfl, HB.out⟩
      · have b4 : decide (k < m) = false := decide_eq_false hkm
        go_wp2_with fail
        refine (pickV t 8 _ HT.out (by omega)).mono ?_
        rintro e w7 ⟨rfl, h7⟩
        replace RA := Aside0.mk (RA.out.below h7)
        replace HB := Aside0.mk (below_step HB.out h7)
        clear h7
        obtain ⟨out, g1, g2, g3, g4⟩ := give_spec HE2.out HE3.out (f := m) (t := m + 1) (c := pickP t 8) (by simp only [rangeB, Bool.and_eq_true, decide_eq_true_eq]; omega) (carr_pick8 t) (by have := HE1.out; omega)
        have hp8 := pickP_range t 8 (by omega)
        generalize pickP t 8 = c8 at *
        have G1 := Aside0.mk g1
        have G2 := Aside0.mk g2
        have hfree := free_spec g2 (n := k) (by have := K0.out; omega)
        have hcase : freeP out k = (0, false) ∨ ∃ j, freeP out k = (j, true) ∧ m < j := by
          rcases hfree with ⟨q1, _⟩ | ⟨j, q1, q2, q3, q4, _⟩
          · exact .inl q1
          · refine .inr ⟨j, q1, ?_⟩
            rw [g3 j] at q4
            by_cases hj : m ≤ j ∧ j < m + 1
            · rw [if_pos hj] at q4; omega
            · rw [if_neg hj] at q4
              by_cases hlt : j < m
              · have := f5.out j q2 hlt; omega
              · omega
        have HCASE := Aside0.mk hcase
        clear g1 g2 g3 g4 hfree hp8 hcase
        go_wp2_with fail
        refine (giveV RA.out m (m + 1) c8 out 0 G1.out).mono ?_
        rintro e w8 ⟨v8, rfl, r8, h8⟩
        have RO := Aside0.mk r8
        replace HB := Aside0.mk (below_step HB.out h8)
        clear r8 h8
        go_wp2_with fail
        rcases HCASE.out with q1 | ⟨j, q1, q2⟩
        · have Q1 := Aside0.mk q1
          clear q1
          refine (freeV RO.out k 0 false Q1.out).mono ?_
          rintro e w9 ⟨rfl, h9⟩
          replace HB := Aside0.mk (below_step HB.out h9)
          clear h9
          go_wp2_with fail
          go_ret
          exact ⟨rfl, HB.out⟩
        · have Q1 := Aside0.mk q1
          have hjb : decide (m < j) = true := decide_eq_true q2
          clear q1 q2
          refine (freeV RO.out k j true Q1.out).mono ?_
          rintro e w9 ⟨rfl, h9⟩
          replace HB := Aside0.mk (below_step HB.out h9)
          clear h9
          go_wp2_with fail
          go_ret
          exact ⟨rfl, HB.out⟩
  · have hf : freeP a k = (0, false) := by unfold freeP; rw [if_neg (fun h => hk ⟨h.2.1, h.2.2⟩)]
    have HF := Aside0.mk hf
    have HK := Aside0.mk hk
    clear hf
    by_cases h0 : k < 0
    · have b0 : decide (k < 0) = true := decide_eq_true h0
      clear hk
      go_wp2_with fail
      refine (freeV RA.out k 0 false HF.out).mono ?_
      rintro e w4 ⟨rfl, h4⟩
      replace HB := Aside0.mk (below_step HB.out h4)
      clear h4
      go_wp2_with fail
      go_ret
      exact ⟨rfl, HB.out⟩
    · have b0 : decide (k < 0) = false := decide_eq_false h0
      have b1 : decide (99999999 < k) = true := decide_eq_true (by omega)
      clear hk h0
      go_wp2_with fail
      refine (freeV RA.out k 0 false HF.out).mono ?_
      rintro e w4 ⟨rfl, h4⟩
      replace HB := Aside0.mk (below_step HB.out h4)
      clear h4
      go_wp2_with fail
      go_ret
      exact ⟨rfl, HB.out⟩
end Go.Proofs.Ytdflgjgoikofaaa.Bk

set_option linter.unusedVariables false
namespace Go.Proofs.Ytdflgjgoikofaaa.Bk
open Go.RowKit Go.Shelf Go.Proofs.YtdflgjgoikofaaaW.PrintWords Go.Proofs.YtdflgjgoikofaaaW.PrintLast Go.Proofs.YtdflgjgoikofaaaW.PrintMore
open Go.Proofs.Ytdflgjgoikofaaa.Ref Go.Proofs.Ytdflgjgoikofaaa.Pl Go.Proofs.Ytdflgjgoikofaaa.Rg
attribute [local go_sem high] run_min_min run_max_max

theorem Trip.take {w : World} {A : Option Addr} {xs : List (Int × Int × Int)} (h : Trip w A xs) (n : Nat) : Trip w A (xs.take n) := by
  refine ⟨fun x hx => h.1 x (List.mem_of_mem_take hx), fun h0 => ?_⟩
  simp only [List.length_take] at h0
  obtain ⟨ad, rfl, h2⟩ := h.2 (by omega)
  refine ⟨ad, rfl, fun i hi => ?_⟩
  simp only [List.length_take] at hi
  have e : (xs.take n).getD i (0, 0, 0) = xs.getD i (0, 0, 0) := by simp only [List.getD_eq_getElem?_getD]; rw [List.getElem?_take, if_pos (by omega)]
  rw [e]
  exact h2 i (by omega)
theorem madeTV {w : World} {A : Option Addr} {xs : List (Int × Int × Int)} (hx : Trip w A xs) (c : Nat) (hc : xs.length ≤ c) (n k : Nat) (hn : n ≤ 1000) (hk : k = min xs.length n) :
    Calls Try.prog 12 #[.slice A k c] w fun e w' => ∃ v, e = .returned v ∧ Rw w' (madeP (xs.take n)) v ∧ Below w.heap.size w w' := by
  have e : k = (xs.take n).length := by rw [List.length_take]; omega
  rw [e]
  exact madeV _ A c w (hx.take n) (by rw [List.length_take]; omega) (by rw [List.length_take]; omega)
theorem valid_eq {l m : List S53} (h1 : validP l = true) (h2 : validP m = true) (h : ∀ n, hold l n = hold m n) : sameP l m = true := (sameP_iff l m).2 (valid_ext l b00 b00 m (validP_from h1) (validP_from h2) h)
theorem valid1000 {l : List S53} (h : validP l = true) : l.length ≤ 1000 := by have := validP_len h; omega

set_option maxHeartbeats 8000000 in
set_option maxRecDepth 100000 in
theorem blockOverlays_calls (xs ys zs : List (Int × Int × Int)) (A B C : Option Addr) (ca cb cc : Nat) (q0 q1 : Int) (w : World) (hx : Trip w A xs) (hy : Trip w B ys) (hz : Trip w C zs) (hca : xs.length ≤ ca) (hcb : ys.length ≤ cb) (hcc : zs.length ≤ cc)
    (h0 : I64 q0) (h1 : I64 q1) :
    Calls Try.prog 7 #[.slice A xs.length ca, .slice B ys.length cb, .slice C zs.length cc, .agg #[.int .i64 q0, .int .i64 q1]] w fun e w' => e = .returned (.bool true) ∧ Below w.heap.size w w' := by
  have HX := Aside0.mk (hx.below ((Below.refl _ w).alloc (Nat.le_refl _) (.cells #[.int .i64 q0, .int .i64 q1] 35)))
  have HY := Aside0.mk (hy.below ((Below.refl _ w).alloc (Nat.le_refl _) (.cells #[.int .i64 q0, .int .i64 q1] 35)))
  have HZ := Aside0.mk (hz.below ((Below.refl _ w).alloc (Nat.le_refl _) (.cells #[.int .i64 q0, .int .i64 q1] 35)))
  have CX := Aside0.mk hca
  have CY := Aside0.mk hcb
  have CZ := Aside0.mk hcc
  have H0 := Aside0.mk h0
  have H1 := Aside0.mk h1
  have HQ := Aside0.mk (blk_new w (.cells #[.int .i64 q0, .int .i64 q1] 35))
  have HB := Aside0.mk ((Below.refl _ w).alloc (Nat.le_refl _) (.cells #[.int .i64 q0, .int .i64 q1] 35))
  obtain ⟨kx, hkx⟩ : ∃ k : Nat, k = min xs.length 8 := ⟨_, rfl⟩
  obtain ⟨ky, hky⟩ : ∃ k : Nat, k = min ys.length 5 := ⟨_, rfl⟩
  obtain ⟨kz, hkz⟩ : ∃ k : Nat, k = min zs.length 5 := ⟨_, rfl⟩
  have mx1 : min (xs.length : Int) 8 = (kx : Int) := by omega
  have mx2 := eq_true (show (0 : Int) ≤ (kx : Int) by omega)
  have mx3 := eq_true (show (kx : Int) ≤ (ca : Int) by omega)
  have my1 : min (ys.length : Int) 5 = (ky : Int) := by omega
  have my2 := eq_true (show (0 : Int) ≤ (ky : Int) by omega)
  have my3 := eq_true (show (ky : Int) ≤ (cb : Int) by omega)
  have mz1 : min (zs.length : Int) 5 = (kz : Int) := by omega
  have mz2 := eq_true (show (0 : Int) ≤ (kz : Int) by omega)
  have mz3 := eq_true (show (kz : Int) ≤ (cc : Int) by omega)
  have KX := Aside0.mk hkx
  have KY := Aside0.mk hky
  have KZ := Aside0.mk hkz
  clear hx hy hz hca hcb hcc h0 h1 hkx hky hkz
  obtain ⟨EA, ea_, va_, ca_⟩ := made_spec (xs.take 8) 8 (by rw [List.length_take]; omega) (by omega)
  obtain ⟨EB, eb_, vb_, cb_⟩ := made_spec (ys.take 5) 5 (by rw [List.length_take]; omega) (by omega)
  obtain ⟨EC, ec_, vc_, cc_⟩ := made_spec (zs.take 5) 5 (by rw [List.length_take]; omega) (by omega)
  have MX := fun w' (h : Trip w' A xs) => madeTV h ca CX.out 8 kx (by omega) KX.out
  have MY := fun w' (h : Trip w' B ys) => madeTV h cb CY.out 5 ky (by omega) KY.out
  have MZ := fun w' (h : Trip w' C zs) => madeTV h cc CZ.out 5 kz (by omega) KZ.out
  have PR := piece_range q0 q1
  have PC := fun w' => piece_calls q0 q1 w' H0.out H1.out
  generalize madeP (xs.take 8) = a at *
  generalize madeP (ys.take 5) = b at *
  generalize madeP (zs.take 5) = c at *
  generalize pieceP q0 q1 = p at *
  obtain ⟨p0, p1⟩ := p
  have VA := Aside0.mk va_
  have VB := Aside0.mk vb_
  have VC := Aside0.mk vc_
  obtain ⟨ab, ab1_, ab2_, ab3_, ab4_⟩ := overlay_spec va_ ca_ vb_ cb_ (by omega)
  have AB1 := Aside0.mk ab1_
  have AB2 := Aside0.mk ab2_
  have AB3 := Aside0.mk ab3_
  have AB4 := Aside0.mk ab4_
  clear ab1_ ab2_ ab3_ ab4_
  obtain ⟨bc, bc1_, bc2_, bc3_, bc4_⟩ := overlay_spec vb_ cb_ vc_ cc_ (by omega)
  have BC1 := Aside0.mk bc1_
  have BC2 := Aside0.mk bc2_
  have BC3 := Aside0.mk bc3_
  have BC4 := Aside0.mk bc4_
  clear bc1_ bc2_ bc3_ bc4_
  obtain ⟨abc, abc1_, abc2_, abc3_, abc4_⟩ := overlay_spec AB2.out AB4.out vc_ cc_ (by simp only [List.length_append]; omega)
  have ABC1 := Aside0.mk abc1_
  have ABC2 := Aside0.mk abc2_
  have ABC3 := Aside0.mk abc3_
  have ABC4 := Aside0.mk abc4_
  clear abc1_ abc2_ abc3_ abc4_
  obtain ⟨rt, rt1_, rt2_, rt3_, rt4_⟩ := overlay_spec va_ ca_ BC2.out BC4.out (by simp only [List.length_append]; omega)
  have RT1 := Aside0.mk rt1_
  have RT2 := Aside0.mk rt2_
  have RT3 := Aside0.mk rt3_
  have RT4 := Aside0.mk rt4_
  clear rt1_ rt2_ rt3_ rt4_
  obtain ⟨sf, sf1_, sf2_, sf3_, sf4_⟩ := overlay_spec va_ ca_ va_ ca_ (by omega)
  have SF1 := Aside0.mk sf1_
  have SF2 := Aside0.mk sf2_
  have SF3 := Aside0.mk sf3_
  have SF4 := Aside0.mk sf4_
  clear sf1_ sf2_ sf3_ sf4_
  obtain ⟨ls, ls1_, ls2_, ls3_, ls4_⟩ := take_spec va_ ca_ PR (by omega)
  have LS1 := Aside0.mk ls1_
  have LS2 := Aside0.mk ls2_
  have LS3 := Aside0.mk ls3_
  have LS4 := Aside0.mk ls4_
  clear ls1_ ls2_ ls3_ ls4_
  obtain ⟨pt, pt1_, pt2_, pt3_, pt4_⟩ := only_spec va_ ca_ PR (by omega)
  have PT1 := Aside0.mk pt1_
  have PT2 := Aside0.mk pt2_
  have PT3 := Aside0.mk pt3_
  have PT4 := Aside0.mk pt4_
  clear pt1_ pt2_ pt3_ pt4_
  obtain ⟨bk, bk1_, bk2_, bk3_, bk4_⟩ := overlay_spec LS2.out LS4.out PT2.out PT4.out (by simp only [List.length_append, List.length_cons, List.length_nil]; omega)
  have BK1 := Aside0.mk bk1_
  have BK2 := Aside0.mk bk2_
  have BK3 := Aside0.mk bk3_
  have BK4 := Aside0.mk bk4_
  clear bk1_ bk2_ bk3_ bk4_
  obtain ⟨ag, ag1_, ag2_, ag3_, ag4_⟩ := overlay_spec PT2.out PT4.out LS2.out LS4.out (by simp only [List.length_append, List.length_cons, List.length_nil]; omega)
  have AG1 := Aside0.mk ag1_
  have AG2 := Aside0.mk ag2_
  have AG3 := Aside0.mk ag3_
  have AG4 := Aside0.mk ag4_
  clear ag1_ ag2_ ag3_ ag4_
  have MXA := Aside0.mk MX
  have MYA := Aside0.mk MY
  have MZA := Aside0.mk MZ
  have PCA := Aside0.mk PC
  clear ea_ va_ ca_ eb_ vb_ cb_ ec_ vc_ cc_ MX MY MZ PC PR
  go_enter Try.func7, Try.ntmps7
  go_wp2_with fail
  refine (sane_calls _).mono ?_
  rintro e w1_ ⟨rfl, h1_⟩
  replace HX := Aside0.mk ((HX.out).below h1_)
  replace HY := Aside0.mk ((HY.out).below h1_)
  replace HZ := Aside0.mk ((HZ.out).below h1_)
  replace HQ := Aside0.mk (blk_below HQ.out h1_)
  replace HB := Aside0.mk (below_step HB.out h1_)
  clear h1_
  go_wp2_with fail
  refine (MXA.out _ HX.out).mono ?_
  rintro e w2_ ⟨v2_, rfl, r2_, h2_⟩
  replace HX := Aside0.mk ((HX.out).below h2_)
  replace HY := Aside0.mk ((HY.out).below h2_)
  replace HZ := Aside0.mk ((HZ.out).below h2_)
  replace HQ := Aside0.mk (blk_below HQ.out h2_)
  replace HB := Aside0.mk (below_step HB.out h2_)
  clear h2_
  have RA := Aside0.mk r2_
  clear r2_
  clear HX
  go_wp2_with fail
  refine (MYA.out _ HY.out).mono ?_
  rintro e w3_ ⟨v3_, rfl, r3_, h3_⟩
  replace HY := Aside0.mk ((HY.out).below h3_)
  replace HZ := Aside0.mk ((HZ.out).below h3_)
  replace HQ := Aside0.mk (blk_below HQ.out h3_)
  replace RA := Aside0.mk ((RA.out).below h3_)
  replace HB := Aside0.mk (below_step HB.out h3_)
  clear h3_
  have RB := Aside0.mk r3_
  clear r3_
  clear HY
  go_wp2_with fail
  refine (MZA.out _ HZ.out).mono ?_
  rintro e w4_ ⟨v4_, rfl, r4_, h4_⟩
  replace HZ := Aside0.mk ((HZ.out).below h4_)
  replace HQ := Aside0.mk (blk_below HQ.out h4_)
  replace RA := Aside0.mk ((RA.out).below h4_)
  replace RB := Aside0.mk ((RB.out).below h4_)
  replace HB := Aside0.mk (below_step HB.out h4_)
  clear h4_
  have RC := Aside0.mk r4_
  clear r4_
  clear HZ
  have c0_ : w4_.cell? ⟨w.heap.size, 0, none⟩ = some (.int .i64 q0) := (blk_cell HQ.out 0).trans rfl
  have c1_ : w4_.cell? ⟨w.heap.size, 1, none⟩ = some (.int .i64 q1) := (blk_cell HQ.out 1).trans rfl
  go_wp2_with fail
  clear c0_ c1_
  refine (PCA.out _).mono ?_
  rintro e w5_ ⟨rfl, h5_⟩
  replace HQ := Aside0.mk (blk_below HQ.out h5_)
  replace RA := Aside0.mk ((RA.out).below h5_)
  replace RB := Aside0.mk ((RB.out).below h5_)
  replace RC := Aside0.mk ((RC.out).below h5_)
  replace HB := Aside0.mk (below_step HB.out h5_)
  clear h5_
  clear HQ
  go_wp2_with fail
  have hal_ := (Below.refl _ w5_).alloc (Nat.le_refl _) (.cells #[.int .i64 p0, .int .i64 p1] 26)
  replace RA := Aside0.mk ((RA.out).below hal_)
  replace RB := Aside0.mk ((RB.out).below hal_)
  replace RC := Aside0.mk ((RC.out).below hal_)
  replace HB := Aside0.mk (below_step HB.out hal_)
  clear hal_
  have HS := Aside0.mk (blk_new w5_ (.cells #[.int .i64 p0, .int .i64 p1] 26))
  refine (overlayV RA.out RB.out ab 0 AB1.out).mono ?_
  rintro e w6_ ⟨v6_, rfl, r6_, h6_⟩
  replace RA := Aside0.mk ((RA.out).below h6_)
  replace RB := Aside0.mk ((RB.out).below h6_)
  replace RC := Aside0.mk ((RC.out).below h6_)
  replace HS := Aside0.mk (blk_below HS.out h6_)
  replace HB := Aside0.mk (below_step HB.out h6_)
  clear h6_
  have RAB := Aside0.mk r6_
  clear r6_
  go_wp2_with fail
  refine (overlayV RAB.out RC.out abc 0 ABC1.out).mono ?_
  rintro e w7_ ⟨v7_, rfl, r7_, h7_⟩
  replace RA := Aside0.mk ((RA.out).below h7_)
  replace RB := Aside0.mk ((RB.out).below h7_)
  replace RC := Aside0.mk ((RC.out).below h7_)
  replace HS := Aside0.mk (blk_below HS.out h7_)
  replace RAB := Aside0.mk ((RAB.out).below h7_)
  replace HB := Aside0.mk (below_step HB.out h7_)
  clear h7_
  have RABC := Aside0.mk r7_
  clear r7_
  go_wp2_with fail
  refine (overlayV RB.out RC.out bc 0 BC1.out).mono ?_
  rintro e w8_ ⟨v8_, rfl, r8_, h8_⟩
  replace RA := Aside0.mk ((RA.out).below h8_)
  replace RB := Aside0.mk ((RB.out).below h8_)
  replace RC := Aside0.mk ((RC.out).below h8_)
  replace HS := Aside0.mk (blk_below HS.out h8_)
  replace RAB := Aside0.mk ((RAB.out).below h8_)
  replace RABC := Aside0.mk ((RABC.out).below h8_)
  replace HB := Aside0.mk (below_step HB.out h8_)
  clear h8_
  have RBC := Aside0.mk r8_
  clear r8_
  go_wp2_with fail
  refine (overlayV RA.out RBC.out rt 0 RT1.out).mono ?_
  rintro e w9_ ⟨v9_, rfl, r9_, h9_⟩
  replace RA := Aside0.mk ((RA.out).below h9_)
  replace RB := Aside0.mk ((RB.out).below h9_)
  replace RC := Aside0.mk ((RC.out).below h9_)
  replace HS := Aside0.mk (blk_below HS.out h9_)
  replace RAB := Aside0.mk ((RAB.out).below h9_)
  replace RABC := Aside0.mk ((RABC.out).below h9_)
  replace RBC := Aside0.mk ((RBC.out).below h9_)
  replace HB := Aside0.mk (below_step HB.out h9_)
  clear h9_
  have RRT := Aside0.mk r9_
  clear r9_
  go_wp2_with fail
  refine (overlayV RA.out RA.out sf 0 SF1.out).mono ?_
  rintro e w10_ ⟨v10_, rfl, r10_, h10_⟩
  replace RA := Aside0.mk ((RA.out).below h10_)
  replace RB := Aside0.mk ((RB.out).below h10_)
  replace RC := Aside0.mk ((RC.out).below h10_)
  replace HS := Aside0.mk (blk_below HS.out h10_)
  replace RAB := Aside0.mk ((RAB.out).below h10_)
  replace RABC := Aside0.mk ((RABC.out).below h10_)
  replace RBC := Aside0.mk ((RBC.out).below h10_)
  replace RRT := Aside0.mk ((RRT.out).below h10_)
  replace HB := Aside0.mk (below_step HB.out h10_)
  clear h10_
  have RSF := Aside0.mk r10_
  clear r10_
  have c0_ : w10_.cell? ⟨w5_.heap.size, 0, none⟩ = some (.int .i64 p0) := (blk_cell HS.out 0).trans rfl
  have c1_ : w10_.cell? ⟨w5_.heap.size, 1, none⟩ = some (.int .i64 p1) := (blk_cell HS.out 1).trans rfl
  go_wp2_with fail
  clear c0_ c1_
  refine (takeV RA.out p0 p1 ls 0 LS1.out).mono ?_
  rintro e w11_ ⟨v11_, rfl, r11_, h11_⟩
  replace RA := Aside0.mk ((RA.out).below h11_)
  replace RB := Aside0.mk ((RB.out).below h11_)
  replace RC := Aside0.mk ((RC.out).below h11_)
  replace HS := Aside0.mk (blk_below HS.out h11_)
  replace RAB := Aside0.mk ((RAB.out).below h11_)
  replace RABC := Aside0.mk ((RABC.out).below h11_)
  replace RBC := Aside0.mk ((RBC.out).below h11_)
  replace RRT := Aside0.mk ((RRT.out).below h11_)
  replace RSF := Aside0.mk ((RSF.out).below h11_)
  replace HB := Aside0.mk (below_step HB.out h11_)
  clear h11_
  have RLS := Aside0.mk r11_
  clear r11_
  have c0_ : w11_.cell? ⟨w5_.heap.size, 0, none⟩ = some (.int .i64 p0) := (blk_cell HS.out 0).trans rfl
  have c1_ : w11_.cell? ⟨w5_.heap.size, 1, none⟩ = some (.int .i64 p1) := (blk_cell HS.out 1).trans rfl
  go_wp2_with fail
  clear c0_ c1_
  refine (onlyV RA.out p0 p1 pt 0 PT1.out).mono ?_
  rintro e w12_ ⟨v12_, rfl, r12_, h12_⟩
  replace RA := Aside0.mk ((RA.out).below h12_)
  replace RB := Aside0.mk ((RB.out).below h12_)
  replace RC := Aside0.mk ((RC.out).below h12_)
  replace HS := Aside0.mk (blk_below HS.out h12_)
  replace RAB := Aside0.mk ((RAB.out).below h12_)
  replace RABC := Aside0.mk ((RABC.out).below h12_)
  replace RBC := Aside0.mk ((RBC.out).below h12_)
  replace RRT := Aside0.mk ((RRT.out).below h12_)
  replace RSF := Aside0.mk ((RSF.out).below h12_)
  replace RLS := Aside0.mk ((RLS.out).below h12_)
  replace HB := Aside0.mk (below_step HB.out h12_)
  clear h12_
  have RPT := Aside0.mk r12_
  clear r12_
  go_wp2_with fail
  refine (overlayV RLS.out RPT.out bk 0 BK1.out).mono ?_
  rintro e w13_ ⟨v13_, rfl, r13_, h13_⟩
  replace RA := Aside0.mk ((RA.out).below h13_)
  replace RB := Aside0.mk ((RB.out).below h13_)
  replace RC := Aside0.mk ((RC.out).below h13_)
  replace HS := Aside0.mk (blk_below HS.out h13_)
  replace RAB := Aside0.mk ((RAB.out).below h13_)
  replace RABC := Aside0.mk ((RABC.out).below h13_)
  replace RBC := Aside0.mk ((RBC.out).below h13_)
  replace RRT := Aside0.mk ((RRT.out).below h13_)
  replace RSF := Aside0.mk ((RSF.out).below h13_)
  replace RLS := Aside0.mk ((RLS.out).below h13_)
  replace RPT := Aside0.mk ((RPT.out).below h13_)
  replace HB := Aside0.mk (below_step HB.out h13_)
  clear h13_
  have RBK := Aside0.mk r13_
  clear r13_
  go_wp2_with fail
  refine (overlayV RPT.out RLS.out ag 0 AG1.out).mono ?_
  rintro e w14_ ⟨v14_, rfl, r14_, h14_⟩
  replace RA := Aside0.mk ((RA.out).below h14_)
  replace RB := Aside0.mk ((RB.out).below h14_)
  replace RC := Aside0.mk ((RC.out).below h14_)
  replace HS := Aside0.mk (blk_below HS.out h14_)
  replace RAB := Aside0.mk ((RAB.out).below h14_)
  replace RABC := Aside0.mk ((RABC.out).below h14_)
  replace RBC := Aside0.mk ((RBC.out).below h14_)
  replace RRT := Aside0.mk ((RRT.out).below h14_)
  replace RSF := Aside0.mk ((RSF.out).below h14_)
  replace RLS := Aside0.mk ((RLS.out).below h14_)
  replace RPT := Aside0.mk ((RPT.out).below h14_)
  replace RBK := Aside0.mk ((RBK.out).below h14_)
  replace HB := Aside0.mk (below_step HB.out h14_)
  clear h14_
  have RAG := Aside0.mk r14_
  clear r14_
  go_wp2_with fail
  refine (sameV RABC.out RRT.out (valid1000 ABC2.out) true (valid_eq ABC2.out RT2.out (fun n => by rw [ABC3.out n, AB3.out n, RT3.out n, BC3.out n]; (repeat' split) <;> first | rfl | omega))).mono ?_
  rintro e w15_ ⟨rfl, h15_⟩
  replace RA := Aside0.mk ((RA.out).below h15_)
  replace RB := Aside0.mk ((RB.out).below h15_)
  replace RC := Aside0.mk ((RC.out).below h15_)
  replace HS := Aside0.mk (blk_below HS.out h15_)
  replace RAB := Aside0.mk ((RAB.out).below h15_)
  replace RABC := Aside0.mk ((RABC.out).below h15_)
  replace RBC := Aside0.mk ((RBC.out).below h15_)
  replace RRT := Aside0.mk ((RRT.out).below h15_)
  replace RSF := Aside0.mk ((RSF.out).below h15_)
  replace RLS := Aside0.mk ((RLS.out).below h15_)
  replace RPT := Aside0.mk ((RPT.out).below h15_)
  replace RBK := Aside0.mk ((RBK.out).below h15_)
  replace RAG := Aside0.mk ((RAG.out).below h15_)
  replace HB := Aside0.mk (below_step HB.out h15_)
  clear h15_
  go_wp2_with fail
  refine (sameV RSF.out RA.out (valid1000 SF2.out) true (valid_eq SF2.out VA.out (fun n => by rw [SF3.out n]; (repeat' split) <;> first | rfl | omega))).mono ?_
  rintro e w16_ ⟨rfl, h16_⟩
  replace RA := Aside0.mk ((RA.out).below h16_)
  replace RB := Aside0.mk ((RB.out).below h16_)
  replace RC := Aside0.mk ((RC.out).below h16_)
  replace HS := Aside0.mk (blk_below HS.out h16_)
  replace RAB := Aside0.mk ((RAB.out).below h16_)
  replace RABC := Aside0.mk ((RABC.out).below h16_)
  replace RBC := Aside0.mk ((RBC.out).below h16_)
  replace RRT := Aside0.mk ((RRT.out).below h16_)
  replace RSF := Aside0.mk ((RSF.out).below h16_)
  replace RLS := Aside0.mk ((RLS.out).below h16_)
  replace RPT := Aside0.mk ((RPT.out).below h16_)
  replace RBK := Aside0.mk ((RBK.out).below h16_)
  replace RAG := Aside0.mk ((RAG.out).below h16_)
  replace HB := Aside0.mk (below_step HB.out h16_)
  clear h16_
  go_wp2_with fail
  refine (sameV RBK.out RA.out (valid1000 BK2.out) true (valid_eq BK2.out VA.out (fun n => by rw [BK3.out n, LS3.out n, PT3.out n]; (repeat' split) <;> first | rfl | omega))).mono ?_
  rintro e w17_ ⟨rfl, h17_⟩
  replace RA := Aside0.mk ((RA.out).below h17_)
  replace RB := Aside0.mk ((RB.out).below h17_)
  replace RC := Aside0.mk ((RC.out).below h17_)
  replace HS := Aside0.mk (blk_below HS.out h17_)
  replace RAB := Aside0.mk ((RAB.out).below h17_)
  replace RABC := Aside0.mk ((RABC.out).below h17_)
  replace RBC := Aside0.mk ((RBC.out).below h17_)
  replace RRT := Aside0.mk ((RRT.out).below h17_)
  replace RSF := Aside0.mk ((RSF.out).below h17_)
  replace RLS := Aside0.mk ((RLS.out).below h17_)
  replace RPT := Aside0.mk ((RPT.out).below h17_)
  replace RBK := Aside0.mk ((RBK.out).below h17_)
  replace RAG := Aside0.mk ((RAG.out).below h17_)
  replace HB := Aside0.mk (below_step HB.out h17_)
  clear h17_
  go_wp2_with fail
  refine (sameV RAG.out RA.out (valid1000 AG2.out) true (valid_eq AG2.out VA.out (fun n => by rw [AG3.out n, LS3.out n, PT3.out n]; (repeat' split) <;> first | rfl | omega))).mono ?_
  rintro e w18_ ⟨rfl, h18_⟩
  replace RA := Aside0.mk ((RA.out).below h18_)
  replace RB := Aside0.mk ((RB.out).below h18_)
  replace RC := Aside0.mk ((RC.out).below h18_)
  replace HS := Aside0.mk (blk_below HS.out h18_)
  replace RAB := Aside0.mk ((RAB.out).below h18_)
  replace RABC := Aside0.mk ((RABC.out).below h18_)
  replace RBC := Aside0.mk ((RBC.out).below h18_)
  replace RRT := Aside0.mk ((RRT.out).below h18_)
  replace RSF := Aside0.mk ((RSF.out).below h18_)
  replace RLS := Aside0.mk ((RLS.out).below h18_)
  replace RPT := Aside0.mk ((RPT.out).below h18_)
  replace RBK := Aside0.mk ((RBK.out).below h18_)
  replace RAG := Aside0.mk ((RAG.out).below h18_)
  replace HB := Aside0.mk (below_step HB.out h18_)
  clear h18_
  go_wp2_with fail
  go_ret
  exact ⟨rfl, HB.out⟩
end Go.Proofs.Ytdflgjgoikofaaa.Bk

namespace Go.Proofs.Ytdflgjgoikofaaa.Pl
open Go.Proofs.Ytdflgjgoikofaaa.Ref Go.Proofs.Ytdflgjgoikofaaa.Bk

/-- The sum of f over 0 .. k-1. -/
def sumN (f : Int → Int) : Nat → Int
  | 0 => 0
  | k + 1 => sumN f k + f k
theorem sumN_lin (f g h : Int → Int) (hfg : ∀ n, f n = g n + h n) : ∀ k, sumN f k = sumN g k + sumN h k := by
  intro k
  induction k with
  | zero => rfl
  | succ k ih => simp only [sumN, ih, hfg]; omega
theorem sumN_same (f g : Int → Int) (hfg : ∀ n, f n = g n) : ∀ k, sumN f k = sumN g k := by
  intro k
  induction k with
  | zero => rfl
  | succ k ih => simp only [sumN, ih, hfg]
theorem sumN_zero (k : Nat) : sumN (fun _ => 0) k = 0 := by
  induction k with
  | zero => rfl
  | succ k ih => simp only [sumN, ih]; omega
def ind (p : Bool) : Int := if p then 1 else 0
/-- The length of a stretch as a sum. -/
theorem sumN_len (f t : Int) (h0 : 0 ≤ f) (hft : f ≤ t) : ∀ k : Nat, sumN (fun n => ind (decide (f ≤ n ∧ n < t))) k = max 0 (min t k - min f k) := by
  intro k
  induction k with
  | zero => simp only [sumN]; omega
  | succ k ih =>
    simp only [sumN]
    rw [ih]
    unfold ind
    by_cases h : f ≤ (k : Int) ∧ (k : Int) < t
    · rw [if_pos (by simpa using h)]; omega
    · rw [if_neg (by simpa using h)]; omega
theorem sumN_range (f t : Int) (h0 : 0 ≤ f) (hft : f ≤ t) (ht : t ≤ 100000000) : sumN (fun n => ind (decide (f ≤ n ∧ n < t))) 100000000 = t - f := by
  rw [sumN_len f t h0 hft]; omega
/-- A carrier's count is the number of numbers that it holds. -/
theorem cnt_sum (c : Int) (hc : 0 ≤ c) (l : List S53) : ∀ p, validFrom p l = true → 0 ≤ bT p → cnt c l = sumN (fun n => ind (decide (hold l n = c))) 100000000 := by
  induction l with
  | nil =>
    intro p _ _
    rw [sumN_same _ (fun _ => 0) (fun n => by rw [hold_n]; unfold ind; rw [if_neg (by simp; omega)]), sumN_zero]
    rfl
  | cons b l ih =>
    intro p h hp
    have hb := validFrom_cons h
    have hi := ih b hb.2 (by omega)
    simp only [cnt]
    rw [hi]
    have hlow := hold_low l b hb.2
    by_cases hbc : bC b = c
    · rw [if_pos hbc, ← sumN_range (bF b) (bT b) (by omega) (by omega) (by omega)]
      refine (sumN_lin _ _ _ (fun n => ?_) _).symm
      rw [hold_c]
      by_cases hn : bF b ≤ n ∧ n < bT b
      · rw [if_pos hn, hlow n (by omega)]
        unfold ind
        rw [if_pos (by simpa using hbc), if_pos (by simpa using hn), if_neg (by simp; omega)]
        rfl
      · rw [if_neg hn]
        have : decide (bF b ≤ n ∧ n < bT b) = false := decide_eq_false hn
        rw [this]
        unfold ind
        simp
    · rw [if_neg hbc, Int.zero_add]
      refine sumN_same _ _ (fun n => ?_) _
      rw [hold_c]
      by_cases hn : bF b ≤ n ∧ n < bT b
      · rw [if_pos hn, hlow n (by omega)]
        unfold ind
        rw [if_neg (by simp; omega), if_neg (by simpa using hbc)]
      · rw [if_neg hn]
/-- The numbers that somebody holds. -/
def lens : List S53 → Int
  | [] => 0
  | b :: l => bT b - bF b + lens l
def heldN (l : List S53) : Int := sumN (fun n => ind (decide (0 ≤ hold l n))) 100000000
theorem total_lens (l : List S53) : ∀ p, validFrom p l = true → cnt 0 l + cnt 1 l + cnt 2 l + cnt 3 l + cnt 4 l + cnt 5 l + cnt 6 l + cnt 7 l = lens l := by
  induction l with
  | nil => intro p _; rfl
  | cons b l ih =>
    intro p h
    have hb := validFrom_cons h
    have := ih b hb.2
    simp only [cnt, lens]
    have hc : bC b = 0 ∨ bC b = 1 ∨ bC b = 2 ∨ bC b = 3 ∨ bC b = 4 ∨ bC b = 5 ∨ bC b = 6 ∨ bC b = 7 := by omega
    rcases hc with hc | hc | hc | hc | hc | hc | hc | hc <;> rw [hc] <;> simp <;> omega
theorem totalP_lens {l : List S53} (h : validP l = true) : totalP l = lens l := by
  rw [← total_lens l b00 (validP_from h)]
  have e : ∀ c, cntP l c = cnt c l := fun c => by unfold cntP; rw [if_pos h]
  simp only [totalP, totalF, e]
  simp
theorem lens_held (l : List S53) : ∀ p, validFrom p l = true → 0 ≤ bT p → lens l = heldN l := by
  induction l with
  | nil =>
    intro p _ _
    unfold heldN
    rw [sumN_same _ (fun _ => 0) (fun n => by rw [hold_n]; rfl), sumN_zero]
    rfl
  | cons b l ih =>
    intro p h hp
    have hb := validFrom_cons h
    have hi := ih b hb.2 (by omega)
    have hlow := hold_low l b hb.2
    simp only [lens]
    rw [hi]
    unfold heldN
    rw [← sumN_range (bF b) (bT b) (by omega) (by omega) (by omega)]
    refine (sumN_lin _ _ _ (fun n => ?_) _).symm
    rw [hold_c]
    by_cases hn : bF b ≤ n ∧ n < bT b
    · rw [if_pos hn, hlow n (by omega)]
      unfold ind
      rw [if_pos (by simp; omega), if_pos (by simpa using hn), if_neg (by simp)]
      rfl
    · rw [if_neg hn]
      have : decide (bF b ≤ n ∧ n < bT b) = false := decide_eq_false hn
      rw [this]
      unfold ind
      simp
end Go.Proofs.Ytdflgjgoikofaaa.Pl

namespace Go.Proofs.Ytdflgjgoikofaaa.Pl
open Go.Proofs.Ytdflgjgoikofaaa.Ref Go.Proofs.Ytdflgjgoikofaaa.Bk

theorem cnt_zero (c : Int) (hc : c < 0 ∨ 7 < c) (l : List S53) : ∀ p, validFrom p l = true → cnt c l = 0 := by
  induction l with
  | nil => intro p _; rfl
  | cons b l ih =>
    intro p h
    have hb := validFrom_cons h
    have := ih b hb.2
    simp only [cnt]
    rw [if_neg (by omega)]
    omega
theorem lens_bound (l : List S53) : ∀ p, validFrom p l = true → bT p ≤ 100000000 → 0 ≤ lens l ∧ lens l ≤ 100000000 - bT p := by
  induction l with
  | nil => intro p _ _; simp only [lens]; omega
  | cons b l ih =>
    intro p h hp
    have hb := validFrom_cons h
    have := ih b hb.2 (by omega)
    simp only [lens]
    omega
theorem cnt_le_lens (c : Int) (l : List S53) : ∀ p, validFrom p l = true → 0 ≤ cnt c l ∧ cnt c l ≤ lens l := by
  induction l with
  | nil => intro p _; simp only [lens, cnt]; omega
  | cons b l ih =>
    intro p h
    have hb := validFrom_cons h
    have := ih b hb.2
    simp only [lens, cnt]
    split <;> omega
theorem cntP_eq {l : List S53} (h : validP l = true) (c : Int) : cntP l c = cnt c l := by unfold cntP; rw [if_pos h]
theorem cntP_bound {l : List S53} (h : validP l = true) (c : Int) : 0 ≤ cntP l c ∧ cntP l c ≤ 100000000 := by
  have h1 := cnt_le_lens c l b00 (validP_from h)
  have h2 := lens_bound l b00 (validP_from h) (by decide)
  have h3 : bT b00 = 0 := rfl
  rw [cntP_eq h]
  omega
theorem totalP_bound {l : List S53} (h : validP l = true) : 0 ≤ totalP l ∧ totalP l ≤ 100000000 := by
  have h2 := lens_bound l b00 (validP_from h) (by decide)
  have h3 : bT b00 = 0 := rfl
  rw [totalP_lens h]
  omega
theorem sumN_four (f g h k : Int → Int) (H : ∀ n, f n + g n = h n + k n) : ∀ K, sumN f K + sumN g K = sumN h K + sumN k K := by
  intro K
  induction K with
  | zero => rfl
  | succ K ih => have := H K; simp only [sumN]; omega
theorem ind_t {p : Prop} [Decidable p] (h : p) : ind (decide p) = 1 := by rw [decide_eq_true h]; rfl
theorem ind_f {p : Prop} [Decidable p] (h : ¬ p) : ind (decide p) = 0 := by rw [decide_eq_false h]; rfl
section
variable {a : List S53} (ha : validP a = true)
include ha
theorem counts_give {g pt : List S53} {f t c : Int} (hg : validP g = true) (hp : validP pt = true) (hr : rangeB f t = true) (hc : carrB c = true) (h1 : ∀ n, hold g n = if f ≤ n ∧ n < t then c else hold a n) (h2 : ∀ n, hold pt n = if f ≤ n ∧ n < t then hold a n else -1) :
    cntP g c = cntP a c + t - f - cntP pt c := by
  simp only [rangeB, carrB, Bool.and_eq_true, decide_eq_true_eq] at hr hc
  rw [cntP_eq ha, cntP_eq hg, cntP_eq hp, cnt_sum c (by omega) a b00 (validP_from ha) (by decide), cnt_sum c (by omega) g b00 (validP_from hg) (by decide), cnt_sum c (by omega) pt b00 (validP_from hp) (by decide)]
  have hs := sumN_range f t (by omega) (by omega) (by omega)
  have := sumN_four (fun n => ind (decide (hold g n = c))) (fun n => ind (decide (hold pt n = c))) (fun n => ind (decide (hold a n = c))) (fun n => ind (decide (f ≤ n ∧ n < t))) (fun n => by
    show ind (decide (hold g n = c)) + ind (decide (hold pt n = c)) = ind (decide (hold a n = c)) + ind (decide (f ≤ n ∧ n < t))
    rw [h1 n, h2 n]
    by_cases hn : f ≤ n ∧ n < t
    · rw [if_pos hn, if_pos hn, ind_t rfl, ind_t hn]; omega
    · rw [if_neg hn, if_neg hn, ind_f hn, ind_f (show ¬ (-1 = c) by omega)]) 100000000
  omega
theorem totals_take {ls pt : List S53} {f t : Int} (hl : validP ls = true) (hp : validP pt = true) (h1 : ∀ n, hold ls n = if f ≤ n ∧ n < t then -1 else hold a n) (h2 : ∀ n, hold pt n = if f ≤ n ∧ n < t then hold a n else -1) :
    totalP ls = lens a - totalP pt := by
  rw [totalP_lens hl, totalP_lens hp, lens_held a b00 (validP_from ha) (by decide), lens_held ls b00 (validP_from hl) (by decide), lens_held pt b00 (validP_from hp) (by decide)]
  have := sumN_four (fun n => ind (decide (0 ≤ hold ls n))) (fun n => ind (decide (0 ≤ hold pt n))) (fun n => ind (decide (0 ≤ hold a n))) (fun _ => 0) (fun n => by
    show ind (decide (0 ≤ hold ls n)) + ind (decide (0 ≤ hold pt n)) = ind (decide (0 ≤ hold a n)) + 0
    rw [h1 n, h2 n]
    by_cases hn : f ≤ n ∧ n < t
    · rw [if_pos hn, if_pos hn, ind_f (show ¬ ((0 : Int) ≤ -1) by decide)]; omega
    · rw [if_neg hn, if_neg hn, ind_f (show ¬ ((0 : Int) ≤ -1) by decide)]) 100000000
  have h0 := sumN_zero 100000000
  unfold heldN
  omega
variable {sw : List S53} {f t : Int} (hs : validP sw = true) (hf : carrB f = true) (ht : carrB t = true) (h1 : ∀ n, hold sw n = if hold a n = f then t else hold a n)
include hs hf ht h1
theorem total_swap : totalP sw = lens a := by
  simp only [carrB, Bool.and_eq_true, decide_eq_true_eq] at hf ht
  rw [totalP_lens hs, lens_held a b00 (validP_from ha) (by decide), lens_held sw b00 (validP_from hs) (by decide)]
  unfold heldN
  refine sumN_same _ _ (fun n => ?_) _
  show ind (decide (0 ≤ hold sw n)) = ind (decide (0 ≤ hold a n))
  rw [h1 n]
  by_cases hn : hold a n = f
  · rw [if_pos hn, hn, ind_t ht.1, ind_t hf.1]
  · rw [if_neg hn]
theorem cnt_swap_to (hne : f ≠ t) : cntP sw t = cntP a t + cntP a f := by
  simp only [carrB, Bool.and_eq_true, decide_eq_true_eq] at hf ht
  rw [cntP_eq ha, cntP_eq hs, cntP_eq ha, cnt_sum t (by omega) a b00 (validP_from ha) (by decide), cnt_sum t (by omega) sw b00 (validP_from hs) (by decide), cnt_sum f (by omega) a b00 (validP_from ha) (by decide)]
  refine sumN_lin _ _ _ (fun n => ?_) _
  show ind (decide (hold sw n = t)) = ind (decide (hold a n = t)) + ind (decide (hold a n = f))
  rw [h1 n]
  by_cases hn : hold a n = f
  · rw [if_pos hn, ind_t rfl, ind_t hn, ind_f (show ¬ hold a n = t by omega)]; rfl
  · rw [if_neg hn, ind_f hn]; omega
omit ha ht in
theorem cnt_swap_from (hne : f ≠ t) : cntP sw f = 0 := by
  simp only [carrB, Bool.and_eq_true, decide_eq_true_eq] at hf
  rw [cntP_eq hs, cnt_sum f (by omega) sw b00 (validP_from hs) (by decide), sumN_same _ (fun _ => 0) (fun n => ?_), sumN_zero]
  show ind (decide (hold sw n = f)) = 0
  rw [h1 n]
  by_cases hn : hold a n = f
  · rw [if_pos hn, ind_f (fun e => hne e.symm)]
  · rw [if_neg hn, ind_f hn]
end
theorem lens_snoc (l : List S53) (b : S53) : lens (l ++ [b]) = lens l + (bT b - bF b) := by
  induction l with
  | nil => simp only [List.nil_append, lens]; omega
  | cons c l ih => simp only [List.cons_append, lens, ih]; omega
theorem lens_take (l : List S53) (i : Nat) (hi : i < l.length) : lens (l.take (i + 1)) = lens (l.take i) + (bT (l.getD i z53) - bF (l.getD i z53)) := by
  rw [take_snoc53 l i hi, lens_snoc]
theorem validFrom_take' (l : List S53) : ∀ p i, validFrom p l = true → validFrom p (l.take i) = true := by
  induction l with
  | nil => intro p i h; simpa using h
  | cons b l ih =>
    intro p i h
    cases i with
    | zero => rfl
    | succ i =>
      simp only [List.take_succ_cons, validFrom, Bool.and_eq_true] at h ⊢
      exact ⟨h.1, ih b i h.2⟩
theorem valid_mem_carr (l : List S53) : ∀ p, validFrom p l = true → ∀ b ∈ l, 0 ≤ bC b ∧ bC b ≤ 7 := by
  induction l with
  | nil => intro p _ b hb; simp at hb
  | cons c l ih =>
    intro p h b hb
    have hc := validFrom_cons h
    rcases List.mem_cons.1 hb with rfl | hb
    · omega
    · exact ih c hc.2 b hb
theorem getD_bounds {l : List S53} (h : validP l = true) (i : Nat) (hi : i < l.length) : 0 ≤ bF (l.getD i z53) ∧ bF (l.getD i z53) < bT (l.getD i z53) ∧ bT (l.getD i z53) ≤ 100000000 ∧ 0 ≤ bC (l.getD i z53) ∧ bC (l.getD i z53) ≤ 7 := by
  have hr : l.getD i z53 ∈ l := by rw [List.getD_eq_getElem?_getD, List.getElem?_eq_getElem hi]; exact List.getElem_mem hi
  have h1 := valid_mem_bounds l b00 (validP_from h) (by decide) _ hr
  have h2 := valid_mem_carr l b00 (validP_from h) _ hr
  omega
end Go.Proofs.Ytdflgjgoikofaaa.Pl

set_option linter.unusedVariables false
namespace Go.Proofs.Ytdflgjgoikofaaa.Bk
open Go.RowKit Go.Shelf Go.Proofs.YtdflgjgoikofaaaW.PrintWords Go.Proofs.YtdflgjgoikofaaaW.PrintLast Go.Proofs.YtdflgjgoikofaaaW.PrintMore
open Go.Proofs.Ytdflgjgoikofaaa.Ref Go.Proofs.Ytdflgjgoikofaaa.Pl Go.Proofs.Ytdflgjgoikofaaa.Rg
attribute [local go_sem high] run_min_min run_max_max

set_option maxHeartbeats 8000000 in
set_option maxRecDepth 100000 in
theorem blockCounts_calls (xs : List (Int × Int × Int)) (A : Option Addr) (ca : Nat) (q0 q1 fr to' : Int) (w : World) (hx : Trip w A xs) (hca : xs.length ≤ ca) (hl : xs.length ≤ 9223372036854775807)
    (h0 : I64 q0) (h1 : I64 q1) (h2 : I64 fr) (h3 : I64 to') :
    Calls Try.prog 8 #[.slice A xs.length ca, .agg #[.int .i64 q0, .int .i64 q1], .int .i64 fr, .int .i64 to'] w fun e w' => e = .returned (.bool true) ∧ Below w.heap.size w w' := by
  have HX := Aside0.mk (hx.below ((Below.refl _ w).alloc (Nat.le_refl _) (.cells #[.int .i64 q0, .int .i64 q1] 35)))
  have HQ := Aside0.mk (blk_new w (.cells #[.int .i64 q0, .int .i64 q1] 35))
  have HB := Aside0.mk ((Below.refl _ w).alloc (Nat.le_refl _) (.cells #[.int .i64 q0, .int .i64 q1] 35))
  have MXA := Aside0.mk (fun w' (h : Trip w' A xs) => madeV xs A ca w' h hca hl)
  obtain ⟨EA, ea_, va_, ca_⟩ := made_spec12 xs
  have PR := piece_range q0 q1
  have PCA := Aside0.mk (fun w' => piece_calls q0 q1 w' h0 h1)
  have PK1 := Aside0.mk (fun w' => pickV fr 8 w' h2 (by omega))
  have PK2 := Aside0.mk (fun w' => pickV to' 8 w' h3 (by omega))
  have c1_ := carr_pick8 fr
  have c2_ := carr_pick8 to'
  clear hx hca h0 h1 h2 h3 hl
  generalize madeP xs = a at *
  generalize pieceP q0 q1 = p at *
  obtain ⟨p0, p1⟩ := p
  generalize pickP fr 8 = f at *
  generalize pickP to' 8 = t at *
  have VA := Aside0.mk va_
  obtain ⟨gv, gv1_, gv2_, gv3_, gv4_⟩ := give_spec va_ ca_ PR c2_ (by omega)
  have GV1 := Aside0.mk gv1_
  have GV2 := Aside0.mk gv2_
  have GV3 := Aside0.mk gv3_
  have GV4 := Aside0.mk gv4_
  clear gv1_ gv2_ gv3_ gv4_
  obtain ⟨ls, ls1_, ls2_, ls3_, ls4_⟩ := take_spec va_ ca_ PR (by omega)
  have LS1 := Aside0.mk ls1_
  have LS2 := Aside0.mk ls2_
  have LS3 := Aside0.mk ls3_
  have LS4 := Aside0.mk ls4_
  clear ls1_ ls2_ ls3_ ls4_
  obtain ⟨pt, pt1_, pt2_, pt3_, pt4_⟩ := only_spec va_ ca_ PR (by omega)
  have PT1 := Aside0.mk pt1_
  have PT2 := Aside0.mk pt2_
  have PT3 := Aside0.mk pt3_
  have PT4 := Aside0.mk pt4_
  clear pt1_ pt2_ pt3_ pt4_
  obtain ⟨sw, sw1_, sw2_, sw3_, sw4_⟩ := swap_spec va_ ca_ c1_ c2_ (by omega)
  have SW1 := Aside0.mk sw1_
  have SW2 := Aside0.mk sw2_
  have SW3 := Aside0.mk sw3_
  have SW4 := Aside0.mk sw4_
  clear sw1_ sw2_ sw3_ sw4_
  have K1 := Aside0.mk (counts_give va_ GV2.out PT2.out PR c2_ GV3.out PT3.out)
  have K2 := Aside0.mk (totals_take va_ LS2.out PT2.out LS3.out PT3.out)
  have K3 := Aside0.mk (total_swap va_ SW2.out c1_ c2_ SW3.out)
  have K4 := Aside0.mk (fun hne => cnt_swap_to va_ SW2.out c1_ c2_ SW3.out hne)
  have K5 := Aside0.mk (fun hne => cnt_swap_from SW2.out c1_ SW3.out hne)
  have Z1 := Aside0.mk ((cntP_eq va_ (-1)).trans (cnt_zero (-1) (by omega) a b00 (validP_from va_)))
  have Z2 := Aside0.mk ((cntP_eq va_ 8).trans (cnt_zero 8 (by omega) a b00 (validP_from va_)))
  have HXR := Aside0.mk (fun i hi => getD_bounds (l := a) va_ i hi)
  have TL := Aside0.mk (totalP_lens va_)
  have LB := Aside0.mk (fun i => lens_bound (a.take i) b00 (validFrom_take' a b00 i (validP_from va_)) (by decide))
  have PRA := Aside0.mk PR
  simp only [rangeB, Bool.and_eq_true, decide_eq_true_eq] at PR
  have al_ := valid1000 va_
  clear ea_ va_ ca_ c1_ c2_
  go_enter Try.func8, Try.ntmps8
  go_wp2_with fail
  refine (sane_calls _).mono ?_
  rintro e w1_ ⟨rfl, h1_⟩
  replace HX := Aside0.mk ((HX.out).below h1_)
  replace HQ := Aside0.mk (blk_below HQ.out h1_)
  replace HB := Aside0.mk (below_step HB.out h1_)
  clear h1_
  go_wp2_with fail
  refine (MXA.out _ HX.out).mono ?_
  rintro e w2_ ⟨v2_, rfl, r2_, h2_⟩
  replace HX := Aside0.mk ((HX.out).below h2_)
  replace HQ := Aside0.mk (blk_below HQ.out h2_)
  replace HB := Aside0.mk (below_step HB.out h2_)
  clear h2_
  have RA := Aside0.mk r2_
  clear r2_
  clear HX
  have c0_ : w2_.cell? ⟨w.heap.size, 0, none⟩ = some (.int .i64 q0) := (blk_cell HQ.out 0).trans rfl
  have c1_ : w2_.cell? ⟨w.heap.size, 1, none⟩ = some (.int .i64 q1) := (blk_cell HQ.out 1).trans rfl
  go_wp2_with fail
  clear c0_ c1_
  refine (PCA.out _).mono ?_
  rintro e w3_ ⟨rfl, h3_⟩
  replace HQ := Aside0.mk (blk_below HQ.out h3_)
  replace RA := Aside0.mk ((RA.out).below h3_)
  replace HB := Aside0.mk (below_step HB.out h3_)
  clear h3_
  clear HQ
  go_wp2_with fail
  have hal_ := (Below.refl _ w3_).alloc (Nat.le_refl _) (.cells #[.int .i64 p0, .int .i64 p1] 26)
  replace RA := Aside0.mk ((RA.out).below hal_)
  replace HB := Aside0.mk (below_step HB.out hal_)
  clear hal_
  have HS := Aside0.mk (blk_new w3_ (.cells #[.int .i64 p0, .int .i64 p1] 26))
  refine (PK1.out _).mono ?_
  rintro e w4_ ⟨rfl, h4_⟩
  replace RA := Aside0.mk ((RA.out).below h4_)
  replace HS := Aside0.mk (blk_below HS.out h4_)
  replace HB := Aside0.mk (below_step HB.out h4_)
  clear h4_
  go_wp2_with fail
  refine (PK2.out _).mono ?_
  rintro e w5_ ⟨rfl, h5_⟩
  replace RA := Aside0.mk ((RA.out).below h5_)
  replace HS := Aside0.mk (blk_below HS.out h5_)
  replace HB := Aside0.mk (below_step HB.out h5_)
  clear h5_
  obtain ⟨Aa, caa, hva, hca, hCa⟩ := RA.out
  subst hva
  have RAC := Aside0.mk hCa
  clear hca hCa
  go_wp2_with fail
  go_loopg [12, 13] a.length (fun kq v12 v13 wr => ∃ (i : Nat), v13 = .int .i64 (i : Int) ∧ v12 = .int .i64 (lens (a.take i)) ∧ Aside0 (i + kq = a.length) ∧ Aside0 (Below w5_.heap.size w5_ wr))
  case atStart => exact ⟨0, rfl, rfl, ⟨by omega⟩, ⟨Below.refl _ _⟩⟩
  case round =>
    obtain ⟨i, rfl, rfl, HK, HBr⟩ := hrel
    by_cases hi : i < a.length
    · have hib : decide ((i : Int) < (a.length : Int)) = true := decide_eq_true (by omega)
      have q1 := eq_true (show (i : Int) < (a.length : Int) by omega)
      have q2 := eq_true (show (0 : Int) ≤ (i : Int) by omega)
      have i9 : i ≤ 1000 := by omega
      obtain ⟨ad, hAd, c0, c1, _⟩ := at_T53 (Kd.C_below RAC.out HBr.out) (i : Int) (by omega) (by omega)
      subst hAd
      simp only [Int.toNat_natCast, rd_T53] at c0 c1
      have hs := lens_take a i hi
      have b0 := LB.out i
      have b1 := LB.out (i + 1)
      have hx0 := HXR.out i hi
      generalize a.getD i z53 = r at c0 c1 hs hx0
      generalize hs1 : lens (a.take (i + 1)) = s1 at *
      generalize lens (a.take i) = s0 at *
      have h00 : bT b00 = 0 := rfl
      have hw1 : IntKind.i64.wrap (s0 + r.f0.f1) = s0 + r.f0.f1 := IntWalk.i64_in _ (by simp only [bF, bT] at *; omega)
      have hw2 : IntKind.i64.wrap (s0 + r.f0.f1 - r.f0.f0) = s1 := by rw [IntWalk.i64_in _ (by simp only [bF, bT] at *; omega)]; simp only [bF, bT] at *; omega
      have HI := Aside0.mk hi
      have HS1 := Aside0.mk hs1
      clear hi hs b0 b1 hx0 h00 hs1
      go_wp2_with fail
      go_quiet (fail)
      go_wp2_with fail
      go_roundg (a.length - (i + 1))
      case measure => have := HK.out; have := HI.out; omega
      case rel => exact ⟨i + 1, by go_num, by rw [HS1.out], ⟨by have := HK.out; have := HI.out; omega⟩, ⟨pw_below_drewN HBr.out _⟩⟩
    · have hib : decide ((i : Int) < (a.length : Int)) = false := decide_eq_false (by omega)
      have q1 := eq_false (show ¬ (i : Int) < (a.length : Int) by omega)
      have hfin : lens (a.take i) = totalP a := by rw [List.take_of_length_le (by omega), TL.out]
      rw [hfin]
      replace HB := Aside0.mk (below_step HB.out HBr.out)
      replace RA := Aside0.mk (RA.out.below HBr.out)
      replace HS := Aside0.mk (blk_below HS.out HBr.out)
      clear hi hfin HK HBr
      have c0_ : wr.cell? ⟨w3_.heap.size, 0, none⟩ = some (.int .i64 p0) := (blk_cell HS.out 0).trans rfl
      have c1_ : wr.cell? ⟨w3_.heap.size, 1, none⟩ = some (.int .i64 p1) := (blk_cell HS.out 1).trans rfl
      go_wp2_with fail
      clear c0_ c1_
      refine (giveV RA.out p0 p1 t gv 0 GV1.out).mono ?_
      rintro e w6_ ⟨v6_, rfl, r6_, h6_⟩
      replace RA := Aside0.mk ((RA.out).below h6_)
      replace HS := Aside0.mk (blk_below HS.out h6_)
      replace HB := Aside0.mk (below_step HB.out h6_)
      clear h6_
      have RG := Aside0.mk r6_
      clear r6_
      have c0_ : w6_.cell? ⟨w3_.heap.size, 0, none⟩ = some (.int .i64 p0) := (blk_cell HS.out 0).trans rfl
      have c1_ : w6_.cell? ⟨w3_.heap.size, 1, none⟩ = some (.int .i64 p1) := (blk_cell HS.out 1).trans rfl
      go_wp2_with fail
      clear c0_ c1_
      refine (takeV RA.out p0 p1 ls 0 LS1.out).mono ?_
      rintro e w7_ ⟨v7_, rfl, r7_, h7_⟩
      replace RA := Aside0.mk ((RA.out).below h7_)
      replace HS := Aside0.mk (blk_below HS.out h7_)
      replace RG := Aside0.mk ((RG.out).below h7_)
      replace HB := Aside0.mk (below_step HB.out h7_)
      clear h7_
      have RL := Aside0.mk r7_
      clear r7_
      have c0_ : w7_.cell? ⟨w3_.heap.size, 0, none⟩ = some (.int .i64 p0) := (blk_cell HS.out 0).trans rfl
      have c1_ : w7_.cell? ⟨w3_.heap.size, 1, none⟩ = some (.int .i64 p1) := (blk_cell HS.out 1).trans rfl
      go_wp2_with fail
      clear c0_ c1_
      refine (onlyV RA.out p0 p1 pt 0 PT1.out).mono ?_
      rintro e w8_ ⟨v8_, rfl, r8_, h8_⟩
      replace RA := Aside0.mk ((RA.out).below h8_)
      replace HS := Aside0.mk (blk_below HS.out h8_)
      replace RG := Aside0.mk ((RG.out).below h8_)
      replace RL := Aside0.mk ((RL.out).below h8_)
      replace HB := Aside0.mk (below_step HB.out h8_)
      clear h8_
      have RP := Aside0.mk r8_
      clear r8_
      go_wp2_with fail
      refine (swapV RA.out f t sw 0 SW1.out).mono ?_
      rintro e w9_ ⟨v9_, rfl, r9_, h9_⟩
      replace RA := Aside0.mk ((RA.out).below h9_)
      replace HS := Aside0.mk (blk_below HS.out h9_)
      replace RG := Aside0.mk ((RG.out).below h9_)
      replace RL := Aside0.mk ((RL.out).below h9_)
      replace RP := Aside0.mk ((RP.out).below h9_)
      replace HB := Aside0.mk (below_step HB.out h9_)
      clear h9_
      have RSW := Aside0.mk r9_
      clear r9_
      go_wp2_with fail
      refine (totalV RA.out _ rfl).mono ?_
      rintro e w10_ ⟨rfl, h10_⟩
      replace RA := Aside0.mk ((RA.out).below h10_)
      replace HS := Aside0.mk (blk_below HS.out h10_)
      replace RG := Aside0.mk ((RG.out).below h10_)
      replace RL := Aside0.mk ((RL.out).below h10_)
      replace RP := Aside0.mk ((RP.out).below h10_)
      replace RSW := Aside0.mk ((RSW.out).below h10_)
      replace HB := Aside0.mk (below_step HB.out h10_)
      clear h10_
      go_wp2_with fail
      refine (countV RA.out (-1) 0 Z1.out).mono ?_
      rintro e w11_ ⟨rfl, h11_⟩
      replace RA := Aside0.mk ((RA.out).below h11_)
      replace HS := Aside0.mk (blk_below HS.out h11_)
      replace RG := Aside0.mk ((RG.out).below h11_)
      replace RL := Aside0.mk ((RL.out).below h11_)
      replace RP := Aside0.mk ((RP.out).below h11_)
      replace RSW := Aside0.mk ((RSW.out).below h11_)
      replace HB := Aside0.mk (below_step HB.out h11_)
      clear h11_
      go_wp2_with fail
      refine (countV RA.out 8 0 Z2.out).mono ?_
      rintro e w12_ ⟨rfl, h12_⟩
      replace RA := Aside0.mk ((RA.out).below h12_)
      replace HS := Aside0.mk (blk_below HS.out h12_)
      replace RG := Aside0.mk ((RG.out).below h12_)
      replace RL := Aside0.mk ((RL.out).below h12_)
      replace RP := Aside0.mk ((RP.out).below h12_)
      replace RSW := Aside0.mk ((RSW.out).below h12_)
      replace HB := Aside0.mk (below_step HB.out h12_)
      clear h12_
      obtain ⟨cg, hcg⟩ : ∃ c, cntP gv t = c := ⟨_, rfl⟩
      obtain ⟨ct, hct⟩ : ∃ c, cntP a t = c := ⟨_, rfl⟩
      obtain ⟨cp, hcp⟩ : ∃ c, cntP pt t = c := ⟨_, rfl⟩
      obtain ⟨tl, htl⟩ : ∃ c, totalP ls = c := ⟨_, rfl⟩
      obtain ⟨tp, htp⟩ : ∃ c, totalP pt = c := ⟨_, rfl⟩
      have hts : totalP sw = totalP a := K3.out.trans TL.out.symm
      have k1 := K1.out
      have k2 := K2.out
      have bg := Pl.cntP_bound GV2.out t
      have bt := Pl.cntP_bound VA.out t
      have bp := Pl.cntP_bound PT2.out t
      have bl := totalP_bound LS2.out
      have bq := totalP_bound PT2.out
      have ba := totalP_bound VA.out
      rw [← TL.out] at k2
      rw [hcg, hct, hcp] at k1
      rw [htl, htp] at k2
      rw [hcg] at bg
      rw [hct] at bt
      rw [hcp] at bp
      rw [htl] at bl
      rw [htp] at bq
      generalize totalP a = ta at *
      have e1 : IntKind.i64.wrap (ct + p1) = ct + p1 := IntWalk.i64_in _ (by omega)
      have e2 : IntKind.i64.wrap (ct + p1 - p0) = ct + p1 - p0 := IntWalk.i64_in _ (by omega)
      have e3 : IntKind.i64.wrap (ct + p1 - p0 - cp) = cg := by rw [IntWalk.i64_in _ (by omega)]; omega
      have e4 : IntKind.i64.wrap (ta - tp) = tl := by rw [IntWalk.i64_in _ (by omega)]; omega
      have HCG := Aside0.mk hcg
      have HCT := Aside0.mk hct
      have HCP := Aside0.mk hcp
      have HTL := Aside0.mk htl
      have HTP := Aside0.mk htp
      have HTS := Aside0.mk hts
      have BP := Aside0.mk (And.intro k1 (And.intro bg (And.intro bt bp)))
      clear hcg hct hcp htl htp hts k1 k2 bg bt bp bl bq ba
      go_upto_region 19 with (fail)
      go_cut [144] (fun s w' => s = .bool false ∧ Aside0 (Below w12_.heap.size w12_ w'))
      case first =>
        have HR := Aside0.mk (Below.refl w12_.heap.size w12_)
        have d1 : w12_.cell? ⟨w3_.heap.size, 1, none⟩ = some (.int .i64 p1) := (blk_cell HS.out 1).trans rfl
        have d0 : w12_.cell? ⟨w3_.heap.size, 0, none⟩ = some (.int .i64 p0) := (blk_cell HS.out 0).trans rfl
        go_region_held3 (fun w' => w'.cell? ⟨w3_.heap.size, 1, none⟩ = some (.int .i64 p1) ∧ w'.cell? ⟨w3_.heap.size, 0, none⟩ = some (.int .i64 p0)) (first | exact ⟨d1, d0⟩ | exact ⟨cell_drew_far d1, cell_drew_far d0⟩)
          (first
            | (go_at_call 30; first | (with_reducible refine (countV (RG.out.below HR.out) t cg HCG.out).mono ?_; rintro e w1 ⟨rfl, h1⟩; replace HR := Aside0.mk (below_step HR.out h1); have d1 : w1.cell? ⟨w3_.heap.size, 1, none⟩ = some (.int .i64 p1) := (blk_cell (blk_below HS.out HR.out) 1).trans rfl; have d0 : w1.cell? ⟨w3_.heap.size, 0, none⟩ = some (.int .i64 p0) := (blk_cell (blk_below HS.out HR.out) 0).trans rfl; clear h1) | (with_reducible refine (countV (RG.out.below (below_drew HR.out)) t cg HCG.out).mono ?_; rintro e w1 ⟨rfl, h1⟩; replace HR := Aside0.mk (below_step (below_drew HR.out) h1); have d1 : w1.cell? ⟨w3_.heap.size, 1, none⟩ = some (.int .i64 p1) := (blk_cell (blk_below HS.out HR.out) 1).trans rfl; have d0 : w1.cell? ⟨w3_.heap.size, 0, none⟩ = some (.int .i64 p0) := (blk_cell (blk_below HS.out HR.out) 0).trans rfl; clear h1))
            | (go_at_call 30; first | (with_reducible refine (countV (RA.out.below HR.out) t ct HCT.out).mono ?_; rintro e w1 ⟨rfl, h1⟩; replace HR := Aside0.mk (below_step HR.out h1); have d1 : w1.cell? ⟨w3_.heap.size, 1, none⟩ = some (.int .i64 p1) := (blk_cell (blk_below HS.out HR.out) 1).trans rfl; have d0 : w1.cell? ⟨w3_.heap.size, 0, none⟩ = some (.int .i64 p0) := (blk_cell (blk_below HS.out HR.out) 0).trans rfl; clear h1) | (with_reducible refine (countV (RA.out.below (below_drew HR.out)) t ct HCT.out).mono ?_; rintro e w1 ⟨rfl, h1⟩; replace HR := Aside0.mk (below_step (below_drew HR.out) h1); have d1 : w1.cell? ⟨w3_.heap.size, 1, none⟩ = some (.int .i64 p1) := (blk_cell (blk_below HS.out HR.out) 1).trans rfl; have d0 : w1.cell? ⟨w3_.heap.size, 0, none⟩ = some (.int .i64 p0) := (blk_cell (blk_below HS.out HR.out) 0).trans rfl; clear h1))
            | (go_at_call 30; first | (with_reducible refine (countV (RP.out.below HR.out) t cp HCP.out).mono ?_; rintro e w1 ⟨rfl, h1⟩; replace HR := Aside0.mk (below_step HR.out h1); have d1 : w1.cell? ⟨w3_.heap.size, 1, none⟩ = some (.int .i64 p1) := (blk_cell (blk_below HS.out HR.out) 1).trans rfl; have d0 : w1.cell? ⟨w3_.heap.size, 0, none⟩ = some (.int .i64 p0) := (blk_cell (blk_below HS.out HR.out) 0).trans rfl; clear h1) | (with_reducible refine (countV (RP.out.below (below_drew HR.out)) t cp HCP.out).mono ?_; rintro e w1 ⟨rfl, h1⟩; replace HR := Aside0.mk (below_step (below_drew HR.out) h1); have d1 : w1.cell? ⟨w3_.heap.size, 1, none⟩ = some (.int .i64 p1) := (blk_cell (blk_below HS.out HR.out) 1).trans rfl; have d0 : w1.cell? ⟨w3_.heap.size, 0, none⟩ = some (.int .i64 p0) := (blk_cell (blk_below HS.out HR.out) 0).trans rfl; clear h1))
            | (go_at_call 29; first | (with_reducible refine (totalV (RL.out.below HR.out) tl HTL.out).mono ?_; rintro e w1 ⟨rfl, h1⟩; replace HR := Aside0.mk (below_step HR.out h1); have d1 : w1.cell? ⟨w3_.heap.size, 1, none⟩ = some (.int .i64 p1) := (blk_cell (blk_below HS.out HR.out) 1).trans rfl; have d0 : w1.cell? ⟨w3_.heap.size, 0, none⟩ = some (.int .i64 p0) := (blk_cell (blk_below HS.out HR.out) 0).trans rfl; clear h1) | (with_reducible refine (totalV (RL.out.below (below_drew HR.out)) tl HTL.out).mono ?_; rintro e w1 ⟨rfl, h1⟩; replace HR := Aside0.mk (below_step (below_drew HR.out) h1); have d1 : w1.cell? ⟨w3_.heap.size, 1, none⟩ = some (.int .i64 p1) := (blk_cell (blk_below HS.out HR.out) 1).trans rfl; have d0 : w1.cell? ⟨w3_.heap.size, 0, none⟩ = some (.int .i64 p0) := (blk_cell (blk_below HS.out HR.out) 0).trans rfl; clear h1))
            | (go_at_call 29; first | (with_reducible refine (totalV (RP.out.below HR.out) tp HTP.out).mono ?_; rintro e w1 ⟨rfl, h1⟩; replace HR := Aside0.mk (below_step HR.out h1); have d1 : w1.cell? ⟨w3_.heap.size, 1, none⟩ = some (.int .i64 p1) := (blk_cell (blk_below HS.out HR.out) 1).trans rfl; have d0 : w1.cell? ⟨w3_.heap.size, 0, none⟩ = some (.int .i64 p0) := (blk_cell (blk_below HS.out HR.out) 0).trans rfl; clear h1) | (with_reducible refine (totalV (RP.out.below (below_drew HR.out)) tp HTP.out).mono ?_; rintro e w1 ⟨rfl, h1⟩; replace HR := Aside0.mk (below_step (below_drew HR.out) h1); have d1 : w1.cell? ⟨w3_.heap.size, 1, none⟩ = some (.int .i64 p1) := (blk_cell (blk_below HS.out HR.out) 1).trans rfl; have d0 : w1.cell? ⟨w3_.heap.size, 0, none⟩ = some (.int .i64 p0) := (blk_cell (blk_below HS.out HR.out) 0).trans rfl; clear h1))
            | (go_at_call 29; first | (with_reducible refine (totalV (RSW.out.below HR.out) ta HTS.out).mono ?_; rintro e w1 ⟨rfl, h1⟩; replace HR := Aside0.mk (below_step HR.out h1); have d1 : w1.cell? ⟨w3_.heap.size, 1, none⟩ = some (.int .i64 p1) := (blk_cell (blk_below HS.out HR.out) 1).trans rfl; have d0 : w1.cell? ⟨w3_.heap.size, 0, none⟩ = some (.int .i64 p0) := (blk_cell (blk_below HS.out HR.out) 0).trans rfl; clear h1) | (with_reducible refine (totalV (RSW.out.below (below_drew HR.out)) ta HTS.out).mono ?_; rintro e w1 ⟨rfl, h1⟩; replace HR := Aside0.mk (below_step (below_drew HR.out) h1); have d1 : w1.cell? ⟨w3_.heap.size, 1, none⟩ = some (.int .i64 p1) := (blk_cell (blk_below HS.out HR.out) 1).trans rfl; have d0 : w1.cell? ⟨w3_.heap.size, 0, none⟩ = some (.int .i64 p0) := (blk_cell (blk_below HS.out HR.out) 0).trans rfl; clear h1)))
        all_goals (go_wp2_with fail; go_meet)
        all_goals exact ⟨rfl, HR⟩
      case rest =>
        obtain ⟨rfl, HR⟩ := hcut
        replace RA := Aside0.mk (RA.out.below HR.out)
        replace RSW := Aside0.mk (RSW.out.below HR.out)
        replace HB := Aside0.mk (below_step HB.out HR.out)
        clear RG RL RP HS e1 e2 e3 e4
        by_cases hft : f = t
        · have b1 : (f == t) = true := beq_iff_eq.mpr hft
          have HFT := Aside0.mk hft
          clear hft
          go_wp2_with fail
          refine (sameV RSW.out RA.out (valid1000 SW2.out) true (valid_eq SW2.out VA.out (fun n => by have hft := HFT.out; rw [SW3.out n]; split <;> first | rfl | omega))).mono ?_
          rintro e y1 ⟨rfl, h1⟩
          replace HB := Aside0.mk (below_step HB.out h1)
          clear h1
          go_wp2_with fail
          go_ret
          exact ⟨rfl, HB.out⟩
        · have b1 : (f == t) = false := beq_eq_false_iff_ne.mpr hft
          have k4 := K4.out hft
          have k5 := K5.out hft
          have bs := Pl.cntP_bound SW2.out t
          have bf := Pl.cntP_bound VA.out f
          have bt := Pl.cntP_bound VA.out t
          obtain ⟨cs, hcs⟩ : ∃ c, cntP sw t = c := ⟨_, rfl⟩
          obtain ⟨cf, hcf⟩ : ∃ c, cntP a f = c := ⟨_, rfl⟩
          rw [hcs, HCT.out, hcf] at k4
          rw [hcs] at bs
          rw [hcf] at bf
          rw [HCT.out] at bt
          have e5 : IntKind.i64.wrap (ct + cf) = cs := by rw [IntWalk.i64_in _ (by omega)]; omega
          have HCS := Aside0.mk hcs
          have HCF := Aside0.mk hcf
          have K5' := Aside0.mk k5
          clear hft k4 k5 bs bf bt hcs hcf
          go_wp2_with fail
          refine (countV RSW.out t cs HCS.out).mono ?_
          rintro e y1 ⟨rfl, h1⟩
          replace RA := Aside0.mk (RA.out.below h1)
          replace RSW := Aside0.mk (RSW.out.below h1)
          replace HB := Aside0.mk (below_step HB.out h1)
          clear h1
          go_wp2_with fail
          refine (countV RA.out t ct HCT.out).mono ?_
          rintro e y2 ⟨rfl, h1⟩
          replace RA := Aside0.mk (RA.out.below h1)
          replace RSW := Aside0.mk (RSW.out.below h1)
          replace HB := Aside0.mk (below_step HB.out h1)
          clear h1
          go_wp2_with fail
          refine (countV RA.out f cf HCF.out).mono ?_
          rintro e y3 ⟨rfl, h1⟩
          replace RSW := Aside0.mk (RSW.out.below h1)
          replace HB := Aside0.mk (below_step HB.out h1)
          clear h1
          go_wp2_with fail
          refine (countV RSW.out f 0 K5'.out).mono ?_
          rintro e y4 ⟨rfl, h1⟩
          replace HB := Aside0.mk (below_step HB.out h1)
          clear h1
          go_wp2_with fail
          go_ret
          exact ⟨rfl, HB.out⟩
end Go.Proofs.Ytdflgjgoikofaaa.Bk

namespace Go.Proofs.Ytdflgjgoikofaaa.blockCounts
open Go.ChangeShapes Go.WideShapes Go.ChangeAt Go.RowKit
open Go.ChangeMaps (open_string shut_string)
set_option linter.unusedVariables false

theorem own : ownKnob Try.prog.godebug = none := by kernel_rfl
theorem laidOut : laidOutB Try.prog = true := by kernel_rfl

set_option maxRecDepth 100000 in
theorem lifted (os : Os) (started : os.Started) (H : Type) (enc : TypeId × Value → H) :
    ReturnsInHanded {} Try.checked os 8 .any (Rows.blockCountsSpec.pre6 enc Try.prog Try.f8 Rows.blockCountsRow.domain false) (Rows.blockCountsSpec.post enc Try.prog Try.f8 false true false false) := by
  refine returnsInHanded_of_change (C := Try.checked) own started (by kernel_rfl) Try.func8
    (ChangeSpec.witness6 (enc := enc) (C := Try.checked) false ⟨#[], #[.slice none 0 0, .agg #[.int .i64 0, .int .i64 0], .int .i64 0, .int .i64 0], []⟩ 8 (by kernel_rfl) (by kernel_rfl) (by kernel_rfl) (by kernel_rfl)) ?_
  intro W base args ds gs before hval0 hW hcnd _
  have hval : ∀ (j : Nat) t v, Try.f8.params[j]? = some t → args[j]? = some v → Value.okWide Try.prog W .any base t v := hval0
  have hW' := hW
  obtain ⟨p, q, hA0, hV, rfl, hfz, hnd⟩ := hW
  have hA : DataW.TrodAll enc Try.prog W 0 (fun _ => true) true Try.f8.params.toList args.toList ds p := hA0
  rw [Try.params8] at hA hval
  obtain ⟨v0, vs0, d0, ds0, p0, q0, hargs, rfl, rfl, h0, r0⟩ := trodAll_cons hA
  obtain ⟨v1, vs1, d1, ds1, p1, q1, rfl, rfl, rfl, h1, r1⟩ := trodAll_cons r0
  obtain ⟨v2, vs2, d2, ds2, p2, q2, rfl, rfl, rfl, h2, r2⟩ := trodAll_cons r1
  obtain ⟨v3, vs3, d3, ds3, p3, q3, rfl, rfl, rfl, h3, r3⟩ := trodAll_cons r2
  obtain ⟨rfl, rfl, rfl⟩ := trodAll_nil r3
  obtain rfl : args = #[v0, v1, v2, v3] := by cases args; simp_all
  obtain ⟨rfl, rfl⟩ := trodVars_none hV
  obtain ⟨a0, len0, cap0, rfl⟩ := okWide_slice Try.underlying22 (hval 0 22 v0 rfl rfl)
  have k0 := h0
  have lt0 : ∀ x ∈ p0, x.block < W.heap.size := by obtain ⟨m, hm⟩ := k0; exact DataW.trod_lt m _ _ _ hm
  obtain ⟨xs0, rfl, c0, l0, w0⟩ : ∃ xs : List (Int × Int × Int), xs.length = len0 ∧ len0 ≤ cap0 ∧ len0 ≤ maxLen ∧ Bk.Trip W a0 xs := by
    obtain ⟨fuel, hf⟩ := h0
    exact Bk.trip_of_trod hf
  have k1 := h1
  have lt1 : ∀ x ∈ p1, x.block < W.heap.size := by obtain ⟨m, hm⟩ := k1; exact DataW.trod_lt m _ _ _ hm
  obtain ⟨a1, b1, rfl, w1, u1⟩ := Bk.open_two (hval 1 35 v1 rfl rfl) h1
  obtain ⟨a2, rfl, rfl, rfl, w2⟩ := open_int Try.underlying3 (hval 2 3 v2 rfl rfl) h2
  obtain ⟨a3, rfl, rfl, rfl, w3⟩ := open_int Try.underlying3 (hval 3 3 v3 rfl rfl) h3
  clear hA0 hval0
  refine (Bk.blockCounts_calls xs0 a0 cap0 a1 b1 a2 a3 W w0 c0 (by unfold maxLen at l0; omega) w1 u1 (Bk.I64_of_wf w2) (Bk.I64_of_wf w3)).mono fun e W' ⟨he, bel⟩ => ?_
  subst he
  exact ⟨_, rfl, _, _, _, [], _, [], hW', trodAll_mk1 (shut_bool Try.underlying4 _), (trodAll_cons_mk (Below.trod laidOut (by kernel_rfl) (of_decide_eq_true (by kernel_rfl)) k0 bel lt0) (trodAll_cons_mk (Below.trod laidOut (by kernel_rfl) (of_decide_eq_true (by kernel_rfl)) k1 bel lt1) (trodAll_cons_mk (shut_int Try.underlying3 w2) (trodAll_cons_mk (shut_int Try.underlying3 w3) trodAll_mk0)))), rfl, bel.frame _, fun h => by cases h⟩

theorem over : Rows.blockCountsRow.holds Try.pinned (OpenSpec.ofChange Rows.blockCountsSpec) :=
  OpenClaim.holds_of_wide 8 Try.f8 rfl rfl rfl rfl rfl rfl rfl ⟨rfl, rfl, rfl, rfl, rfl⟩ rfl rfl rfl rfl rfl (by kernel_rfl) Try.func8 (by kernel_rfl)
    (of_decide_eq_true (by kernel_rfl)) (by unfold Func.isWrapper; first | (rw [if_pos (by decide +kernel)]; kernel_rfl) | (rw [if_neg (by decide +kernel)]; exact ⟨rfl, rfl⟩))
    (fun os started H enc _ => lifted os started H enc)

theorem proved : Rows.BlockCountsSaid := over
#print axioms proved
end Go.Proofs.Ytdflgjgoikofaaa.blockCounts
