/- Proved: the law BlockCanonical of package block returns true at every input, and changes none; no condition. -/
import Derived.Test.YtdflgjgoikofaaaZ6
import Derived.Test.YtdflgjgoikofaaaZ7
import Derived.Test.YtdflgjgoikofaaaRows
import Derived.WalkKit
import Derived.ProofKit
import Derived.OpenShut
import Derived.ShutString
import Derived.ChangeOld
import Derived.Below
set_option linter.unusedVariables false
set_option linter.unusedSimpArgs false
set_option linter.unusedVariables false
namespace Go.Proofs.Ytdflgjgoikofaaa.Bk
open Go.RowKit Go.Shelf Go.Proofs.YtdflgjgoikofaaaW.PrintWords Go.Proofs.YtdflgjgoikofaaaW.PrintLast Go.Proofs.YtdflgjgoikofaaaW.PrintMore
open Go.Proofs.Ytdflgjgoikofaaa.Ref Go.Proofs.Ytdflgjgoikofaaa.Pl Go.Proofs.Ytdflgjgoikofaaa.Rg

theorem nearV {l : List S53} {v : Value} {w : World} (h : Rw w l v) (hv : validP l = true) (which n : Int) (hw : I64 which) (hn : I64 n) : Calls Try.prog 15 #[v, .int .i64 which, .int .i64 n] w fun e w' => e = .returned (.int .i64 (nearP l which n)) ∧ Below w.heap.size w w' := by
  obtain ⟨A, c, rfl, hc, hC⟩ := h
  exact dialtoneref13_Near.calls 2 A c l which n _ w hC hc (Near_f l which n hv hw hn 2 (by omega))
theorem pickV (c n : Int) (w : World) (hc : I64 c) (hn : 0 < n) : Calls Try.prog 17 #[.int .i64 c, .int .i64 n] w fun e w' => e = .returned (.int .i64 (pickP c n)) ∧ Below w.heap.size w w' :=
  (dialtonelaw13_pick.calls c n _ w (pick_law c n hc hn)).mono fun e w' h => by
    obtain ⟨h1, q, rfl⟩ := h
    exact ⟨h1, pw_below_drewN (Below.refl _ _) q⟩
theorem madeV (xs : List (Int × Int × Int)) (A : Option Addr) (c : Nat) (w : World) (hx : Trip w A xs) (hc : xs.length ≤ c) (hn : xs.length ≤ 9223372036854775807) :
    Calls Try.prog 12 #[.slice A xs.length c] w fun e w' => ∃ v, e = .returned v ∧ Rw w' (madeP xs) v ∧ Below w.heap.size w w' :=
  (made_calls xs A c w hx hc hn).mono fun e w' h => by
    obtain ⟨A', c', rfl, h1, h2, h3⟩ := h
    exact ⟨_, rfl, ⟨A', c', rfl, h2, h1⟩, h3⟩
theorem Trip.below {w w' : World} {A : Option Addr} {xs : List (Int × Int × Int)} (h : Trip w A xs) (hb : Below w.heap.size w w') : Trip w' A xs :=
  ⟨h.1, fun h0 => by
    obtain ⟨ad, rfl, h2⟩ := h.2 h0
    exact ⟨ad, rfl, fun i hi => ⟨pw_cell_below hb (h2 i hi).1, pw_cell_below hb (h2 i hi).2.1, pw_cell_below hb (h2 i hi).2.2⟩⟩⟩

set_option maxHeartbeats 8000000 in
set_option maxRecDepth 100000 in
theorem blockFree_calls (xs : List (Int × Int × Int)) (A : Option Addr) (c : Nat) (which n t btw : Int) (w : World) (hx : Trip w A xs) (hc : xs.length ≤ c) (hl : xs.length ≤ 9223372036854775807) (hwh : I64 which) (hn : I64 n) (ht : I64 t) (hb : I64 btw) :
    Calls Try.prog 10 #[.slice A xs.length c, .int .i64 which, .int .i64 n, .int .i64 t, .int .i64 btw] w fun e w' => e = .returned (.bool true) ∧ Below w.heap.size w w' := by
  have HX := Aside0.mk hx
  have HC := Aside0.mk hc
  have HL := Aside0.mk hl
  have HWH := Aside0.mk hwh
  have HN := Aside0.mk hn
  have HT := Aside0.mk ht
  have HBT := Aside0.mk hb
  clear hx hc hl hwh hn ht hb
  obtain ⟨E, e1, e2, e3⟩ := made_spec12 xs
  have HE1 := Aside0.mk e1
  have HE2 := Aside0.mk e2
  have HE3 := Aside0.mk e3
  clear e1 e2 e3
  go_enter Try.func10, Try.ntmps10
  go_wp2_with fail
  refine (sane_calls _).mono ?_
  rintro e w1 ⟨rfl, h1⟩
  have HB := Aside0.mk h1
  clear h1
  go_wp2_with fail
  refine (madeV xs A c _ (HX.out.below HB.out) HC.out HL.out).mono ?_
  rintro e w2 ⟨v, rfl, r2, h2⟩
  generalize madeP xs = a at *
  have RA := Aside0.mk r2
  replace HB := Aside0.mk (below_step HB.out h2)
  clear h2 r2
  go_wp2_with fail
  refine (nearV RA.out HE2.out which n HWH.out HN.out).mono ?_
  rintro e w3 ⟨rfl, h3⟩
  replace RA := Aside0.mk (RA.out.below h3)
  replace HB := Aside0.mk (below_step HB.out h3)
  clear h3
  generalize nearP a which n = k
  by_cases hk : 0 ≤ k ∧ k ≤ 99999999
  · obtain ⟨k0, k1⟩ := hk
    have b0 : decide (k < 0) = false := decide_eq_false (by omega)
    have b1 : decide (99999999 < k) = false := decide_eq_false (by omega)
    rcases free_spec HE2.out ⟨k0, k1⟩ with ⟨f1, f2⟩ | ⟨m, f1, f2, f3, f4, f5⟩
    · have F1 := Aside0.mk f1
      have hp := pickP_range btw (100000000 - k) (by omega)
      have hh := f2 (k + pickP btw (100000000 - k)) (by omega) (by omega)
      have HP := Aside0.mk hp
      have HH := Aside0.mk hh
      have hpos : 0 < 100000000 - k := by omega
      clear f1 f2 hh
      go_wp2_with fail
      refine (freeV RA.out k 0 false F1.out).mono ?_
      rintro e w4 ⟨rfl, h4⟩
      replace RA := Aside0.mk (RA.out.below h4)
      replace HB := Aside0.mk (below_step HB.out h4)
      clear h4
      go_wp2_with fail
      refine (pickV btw _ _ HBT.out hpos).mono ?_
      rintro e w5 ⟨rfl, h5⟩
      replace RA := Aside0.mk (RA.out.below h5)
      replace HB := Aside0.mk (below_step HB.out h5)
      clear h5
      generalize pickP btw (100000000 - k) = z at *
      go_wp2_with fail
      refine (holderV RA.out _ (hold a (k + z)) (holderL_valid HE2.out _)).mono ?_
      rintro e w6 ⟨rfl, h6⟩
      replace HB := Aside0.mk (below_step HB.out h6)
      clear h6
      have hz : decide (0 ≤ hold a (k + z)) = true := decide_eq_true HH.out
      generalize hold a (k + z) = y at *
      go_wp2_with fail
      go_ret
      exact ⟨rfl, HB.out⟩
    · have F1 := Aside0.mk f1
      have F4 := Aside0.mk f4
      replace f5 := Aside0.mk f5
      have K0 := Aside0.mk (And.intro k0 (And.intro k1 (And.intro f2 f3)))
      have b2 : decide (m < k) = false := decide_eq_false (by omega)
      have b3 : decide (99999999 < m) = false := decide_eq_false (by omega)
      clear f1 f4
      go_wp2_with fail
      refine (freeV RA.out k m true F1.out).mono ?_
      rintro e w4 ⟨rfl, h4⟩
      replace RA := Aside0.mk (RA.out.below h4)
      replace HB := Aside0.mk (below_step HB.out h4)
      clear h4
      go_wp2_with fail
      refine (holderV RA.out m (-1) ((holderL_valid HE2.out _).trans F4.out)).mono ?_
      rintro e w5 ⟨rfl, h5⟩
      replace RA := Aside0.mk (RA.out.below h5)
      replace HB := Aside0.mk (below_step HB.out h5)
      clear h5
      by_cases hkm : k < m
      · have b4 : decide (k < m) = true := decide_eq_true hkm
        have hpos : 0 < m - k := by omega
        have hp := pickP_range btw (m - k) hpos
        have hh := f5.out (k + pickP btw (m - k)) (by omega) (by omega)
        have HH := Aside0.mk hh
        clear hh
        go_wp2_with fail
        refine (pickV btw _ _ HBT.out hpos).mono ?_
        rintro e w6 ⟨rfl, h6⟩
        replace RA := Aside0.mk (RA.out.below h6)
        replace HB := Aside0.mk (below_step HB.out h6)
        clear h6
        generalize pickP btw (m - k) = z at *
        go_wp2_with fail
        refine (holderV RA.out _ (hold a (k + z)) (holderL_valid HE2.out _)).mono ?_
        rintro e wh ⟨rfl, hh6⟩
        replace RA := Aside0.mk (RA.out.below hh6)
        replace HB := Aside0.mk (below_step HB.out hh6)
        clear hh6
        have hz : decide (hold a (k + z) < 0) = false := decide_eq_false (by have := HH.out; omega)
        generalize hold a (k + z) = y at *
        go_wp2_with fail
        refine (pickV t 8 _ HT.out (by omega)).mono ?_
        rintro e w7 ⟨rfl, h7⟩
        replace RA := Aside0.mk (RA.out.below h7)
        replace HB := Aside0.mk (below_step HB.out h7)
        clear h7
        obtain ⟨out, g1, g2, g3, g4⟩ := give_spec HE2.out HE3.out (f := m) (t := m + 1) (c := pickP t 8) (by simp only [rangeB, Bool.and_eq_true, decide_eq_true_eq]; omega) (carr_pick8 t) (by have := HE1.out; omega)
        have hp8 := pickP_range t 8 (by omega)
        generalize pickP t 8 = c8 at *
        have G1 := Aside0.mk g1
        have G2 := Aside0.mk g2
        have hfree := free_spec g2 (n := k) (by have := K0.out; omega)
        have hcase : freeP out k = (0, false) ∨ ∃ j, freeP out k = (j, true) ∧ m < j := by
          rcases hfree with ⟨q1, _⟩ | ⟨j, q1, q2, q3, q4, _⟩
          · exact .inl q1
          · refine .inr ⟨j, q1, ?_⟩
            rw [g3 j] at q4
            by_cases hj : m ≤ j ∧ j < m + 1
            · rw [if_pos hj] at q4; omega
            · rw [if_neg hj] at q4
              by_cases hlt : j < m
              · have := f5.out j q2 hlt; omega
              · omega
        have HCASE := Aside0.mk hcase
        clear g1 g2 g3 g4 hfree hp8 hcase
        go_wp2_with fail
        refine (giveV RA.out m (m + 1) c8 out 0 G1.out).mono ?_
        rintro e w8 ⟨v8, rfl, r8, h8⟩
        have RO := Aside0.mk r8
        replace HB := Aside0.mk (below_step HB.out h8)
        clear r8 h8
        go_wp2_with fail
        rcases HCASE.out with q1 | ⟨j, q1, q2⟩
        · have Q1 := Aside0.mk q1
          clear q1
          refine (freeV RO.out k 0 false Q1.out).mono ?_
          rintro e w9 ⟨rfl, h9⟩
          replace HB := Aside0.mk (below_step HB.out h9)
          clear h9
          go_wp2_with fail
          go_ret
          exact ⟨rfl, HB.out⟩
        · have Q1 := Aside0.mk q1
          have hjb : decide (m < j) = true := decide_eq_true q2
          clear q1 q2
          refine (freeV RO.out k j true Q1.out).mono ?_
          rintro e w9 ⟨rfl, h9⟩
          replace HB := Aside0.mk (below_step HB.out h9)
          clear h9
          go_wp2_with fail
          go_ret
          exact ⟨rfl, HB.out⟩
      · have b4 : decide (k < m) = false := decide_eq_false hkm
        go_wp2_with fail
        refine (pickV t 8 _ HT.out (by omega)).mono ?_
        rintro e w7 ⟨rfl, h7⟩
        replace RA := Aside0.mk (RA.out.below h7)
        replace HB := Aside0.mk (below_step HB.out h7)
        clear h7
        obtain ⟨out, g1, g2, g3, g4⟩ := give_spec HE2.out HE3.out (f := m) (t := m + 1) (c := pickP t 8) (by simp only [rangeB, Bool.and_eq_true, decide_eq_true_eq]; omega) (carr_pick8 t) (by have := HE1.out; omega)
        have hp8 := pickP_range t 8 (by omega)
        generalize pickP t 8 = c8 at *
        have G1 := Aside0.mk g1
        have G2 := Aside0.mk g2
        have hfree := free_spec g2 (n := k) (by have := K0.out; omega)
        have hcase : freeP out k = (0, false) ∨ ∃ j, freeP out k = (j, true) ∧ m < j := by
          rcases hfree with ⟨q1, _⟩ | ⟨j, q1, q2, q3, q4, _⟩
          · exact .inl q1
          · refine .inr ⟨j, q1, ?_⟩
            rw [g3 j] at q4
            by_cases hj : m ≤ j ∧ j < m + 1
            · rw [if_pos hj] at q4; omega
            · rw [if_neg hj] at q4
              by_cases hlt : j < m
              · have := f5.out j q2 hlt; omega
              · omega
        have HCASE := Aside0.mk hcase
        clear g1 g2 g3 g4 hfree hp8 hcase
        go_wp2_with fail
        refine (giveV RA.out m (m + 1) c8 out 0 G1.out).mono ?_
        rintro e w8 ⟨v8, rfl, r8, h8⟩
        have RO := Aside0.mk r8
        replace HB := Aside0.mk (below_step HB.out h8)
        clear r8 h8
        go_wp2_with fail
        rcases HCASE.out with q1 | ⟨j, q1, q2⟩
        · have Q1 := Aside0.mk q1
          clear q1
          refine (freeV RO.out k 0 false Q1.out).mono ?_
          rintro e w9 ⟨rfl, h9⟩
          replace HB := Aside0.mk (below_step HB.out h9)
          clear h9
          go_wp2_with fail
          go_ret
          exact ⟨rfl, HB.out⟩
        · have Q1 := Aside0.mk q1
          have hjb : decide (m < j) = true := decide_eq_true q2
          clear q1 q2
          refine (freeV RO.out k j true Q1.out).mono ?_
          rintro e w9 ⟨rfl, h9⟩
          replace HB := Aside0.mk (below_step HB.out h9)
          clear h9
          go_wp2_with fail
          go_ret
          exact ⟨rfl, HB.out⟩
  · have hf : freeP a k = (0, false) := by unfold freeP; rw [if_neg (fun h => hk ⟨h.2.1, h.2.2⟩)]
    have HF := Aside0.mk hf
    have HK := Aside0.mk hk
    clear hf
    by_cases h0 : k < 0
    · have b0 : decide (k < 0) = true := decide_eq_true h0
      clear hk
      go_wp2_with fail
      refine (freeV RA.out k 0 false HF.out).mono ?_
      rintro e w4 ⟨rfl, h4⟩
      replace HB := Aside0.mk (below_step HB.out h4)
      clear h4
      go_wp2_with fail
      go_ret
      exact ⟨rfl, HB.out⟩
    · have b0 : decide (k < 0) = false := decide_eq_false h0
      have b1 : decide (99999999 < k) = true := decide_eq_true (by omega)
      clear hk h0
      go_wp2_with fail
      refine (freeV RA.out k 0 false HF.out).mono ?_
      rintro e w4 ⟨rfl, h4⟩
      replace HB := Aside0.mk (below_step HB.out h4)
      clear h4
      go_wp2_with fail
      go_ret
      exact ⟨rfl, HB.out⟩
end Go.Proofs.Ytdflgjgoikofaaa.Bk

set_option linter.unusedVariables false
namespace Go.Proofs.Ytdflgjgoikofaaa.Bk
open Go.RowKit Go.Shelf Go.Proofs.YtdflgjgoikofaaaW.PrintWords Go.Proofs.YtdflgjgoikofaaaW.PrintLast Go.Proofs.YtdflgjgoikofaaaW.PrintMore
open Go.Proofs.Ytdflgjgoikofaaa.Ref Go.Proofs.Ytdflgjgoikofaaa.Pl Go.Proofs.Ytdflgjgoikofaaa.Rg
attribute [local go_sem high] run_min_min run_max_max

theorem Trip.take {w : World} {A : Option Addr} {xs : List (Int × Int × Int)} (h : Trip w A xs) (n : Nat) : Trip w A (xs.take n) := by
  refine ⟨fun x hx => h.1 x (List.mem_of_mem_take hx), fun h0 => ?_⟩
  simp only [List.length_take] at h0
  obtain ⟨ad, rfl, h2⟩ := h.2 (by omega)
  refine ⟨ad, rfl, fun i hi => ?_⟩
  simp only [List.length_take] at hi
  have e : (xs.take n).getD i (0, 0, 0) = xs.getD i (0, 0, 0) := by simp only [List.getD_eq_getElem?_getD]; rw [List.getElem?_take, if_pos (by omega)]
  rw [e]
  exact h2 i (by omega)
theorem madeTV {w : World} {A : Option Addr} {xs : List (Int × Int × Int)} (hx : Trip w A xs) (c : Nat) (hc : xs.length ≤ c) (n k : Nat) (hn : n ≤ 1000) (hk : k = min xs.length n) :
    Calls Try.prog 12 #[.slice A k c] w fun e w' => ∃ v, e = .returned v ∧ Rw w' (madeP (xs.take n)) v ∧ Below w.heap.size w w' := by
  have e : k = (xs.take n).length := by rw [List.length_take]; omega
  rw [e]
  exact madeV _ A c w (hx.take n) (by rw [List.length_take]; omega) (by rw [List.length_take]; omega)
theorem valid_eq {l m : List S53} (h1 : validP l = true) (h2 : validP m = true) (h : ∀ n, hold l n = hold m n) : sameP l m = true := (sameP_iff l m).2 (valid_ext l b00 b00 m (validP_from h1) (validP_from h2) h)
theorem valid1000 {l : List S53} (h : validP l = true) : l.length ≤ 1000 := by have := validP_len h; omega

set_option maxHeartbeats 8000000 in
set_option maxRecDepth 100000 in
theorem blockOverlays_calls (xs ys zs : List (Int × Int × Int)) (A B C : Option Addr) (ca cb cc : Nat) (q0 q1 : Int) (w : World) (hx : Trip w A xs) (hy : Trip w B ys) (hz : Trip w C zs) (hca : xs.length ≤ ca) (hcb : ys.length ≤ cb) (hcc : zs.length ≤ cc)
    (h0 : I64 q0) (h1 : I64 q1) :
    Calls Try.prog 7 #[.slice A xs.length ca, .slice B ys.length cb, .slice C zs.length cc, .agg #[.int .i64 q0, .int .i64 q1]] w fun e w' => e = .returned (.bool true) ∧ Below w.heap.size w w' := by
  have HX := Aside0.mk (hx.below ((Below.refl _ w).alloc (Nat.le_refl _) (.cells #[.int .i64 q0, .int .i64 q1] 35)))
  have HY := Aside0.mk (hy.below ((Below.refl _ w).alloc (Nat.le_refl _) (.cells #[.int .i64 q0, .int .i64 q1] 35)))
  have HZ := Aside0.mk (hz.below ((Below.refl _ w).alloc (Nat.le_refl _) (.cells #[.int .i64 q0, .int .i64 q1] 35)))
  have CX := Aside0.mk hca
  have CY := Aside0.mk hcb
  have CZ := Aside0.mk hcc
  have H0 := Aside0.mk h0
  have H1 := Aside0.mk h1
  have HQ := Aside0.mk (blk_new w (.cells #[.int .i64 q0, .int .i64 q1] 35))
  have HB := Aside0.mk ((Below.refl _ w).alloc (Nat.le_refl _) (.cells #[.int .i64 q0, .int .i64 q1] 35))
  obtain ⟨kx, hkx⟩ : ∃ k : Nat, k = min xs.length 8 := ⟨_, rfl⟩
  obtain ⟨ky, hky⟩ : ∃ k : Nat, k = min ys.length 5 := ⟨_, rfl⟩
  obtain ⟨kz, hkz⟩ : ∃ k : Nat, k = min zs.length 5 := ⟨_, rfl⟩
  have mx1 : min (xs.length : Int) 8 = (kx : Int) := by omega
  have mx2 := eq_true (show (0 : Int) ≤ (kx : Int) by omega)
  have mx3 := eq_true (show (kx : Int) ≤ (ca : Int) by omega)
  have my1 : min (ys.length : Int) 5 = (ky : Int) := by omega
  have my2 := eq_true (show (0 : Int) ≤ (ky : Int) by omega)
  have my3 := eq_true (show (ky : Int) ≤ (cb : Int) by omega)
  have mz1 : min (zs.length : Int) 5 = (kz : Int) := by omega
  have mz2 := eq_true (show (0 : Int) ≤ (kz : Int) by omega)
  have mz3 := eq_true (show (kz : Int) ≤ (cc : Int) by omega)
  have KX := Aside0.mk hkx
  have KY := Aside0.mk hky
  have KZ := Aside0.mk hkz
  clear hx hy hz hca hcb hcc h0 h1 hkx hky hkz
  obtain ⟨EA, ea_, va_, ca_⟩ := made_spec (xs.take 8) 8 (by rw [List.length_take]; omega) (by omega)
  obtain ⟨EB, eb_, vb_, cb_⟩ := made_spec (ys.take 5) 5 (by rw [List.length_take]; omega) (by omega)
  obtain ⟨EC, ec_, vc_, cc_⟩ := made_spec (zs.take 5) 5 (by rw [List.length_take]; omega) (by omega)
  have MX := fun w' (h : Trip w' A xs) => madeTV h ca CX.out 8 kx (by omega) KX.out
  have MY := fun w' (h : Trip w' B ys) => madeTV h cb CY.out 5 ky (by omega) KY.out
  have MZ := fun w' (h : Trip w' C zs) => madeTV h cc CZ.out 5 kz (by omega) KZ.out
  have PR := piece_range q0 q1
  have PC := fun w' => piece_calls q0 q1 w' H0.out H1.out
  generalize madeP (xs.take 8) = a at *
  generalize madeP (ys.take 5) = b at *
  generalize madeP (zs.take 5) = c at *
  generalize pieceP q0 q1 = p at *
  obtain ⟨p0, p1⟩ := p
  have VA := Aside0.mk va_
  have VB := Aside0.mk vb_
  have VC := Aside0.mk vc_
  obtain ⟨ab, ab1_, ab2_, ab3_, ab4_⟩ := overlay_spec va_ ca_ vb_ cb_ (by omega)
  have AB1 := Aside0.mk ab1_
  have AB2 := Aside0.mk ab2_
  have AB3 := Aside0.mk ab3_
  have AB4 := Aside0.mk ab4_
  clear ab1_ ab2_ ab3_ ab4_
  obtain ⟨bc, bc1_, bc2_, bc3_, bc4_⟩ := overlay_spec vb_ cb_ vc_ cc_ (by omega)
  have BC1 := Aside0.mk bc1_
  have BC2 := Aside0.mk bc2_
  have BC3 := Aside0.mk bc3_
  have BC4 := Aside0.mk bc4_
  clear bc1_ bc2_ bc3_ bc4_
  obtain ⟨abc, abc1_, abc2_, abc3_, abc4_⟩ := overlay_spec AB2.out AB4.out vc_ cc_ (by simp only [List.length_append]; omega)
  have ABC1 := Aside0.mk abc1_
  have ABC2 := Aside0.mk abc2_
  have ABC3 := Aside0.mk abc3_
  have ABC4 := Aside0.mk abc4_
  clear abc1_ abc2_ abc3_ abc4_
  obtain ⟨rt, rt1_, rt2_, rt3_, rt4_⟩ := overlay_spec va_ ca_ BC2.out BC4.out (by simp only [List.length_append]; omega)
  have RT1 := Aside0.mk rt1_
  have RT2 := Aside0.mk rt2_
  have RT3 := Aside0.mk rt3_
  have RT4 := Aside0.mk rt4_
  clear rt1_ rt2_ rt3_ rt4_
  obtain ⟨sf, sf1_, sf2_, sf3_, sf4_⟩ := overlay_spec va_ ca_ va_ ca_ (by omega)
  have SF1 := Aside0.mk sf1_
  have SF2 := Aside0.mk sf2_
  have SF3 := Aside0.mk sf3_
  have SF4 := Aside0.mk sf4_
  clear sf1_ sf2_ sf3_ sf4_
  obtain ⟨ls, ls1_, ls2_, ls3_, ls4_⟩ := take_spec va_ ca_ PR (by omega)
  have LS1 := Aside0.mk ls1_
  have LS2 := Aside0.mk ls2_
  have LS3 := Aside0.mk ls3_
  have LS4 := Aside0.mk ls4_
  clear ls1_ ls2_ ls3_ ls4_
  obtain ⟨pt, pt1_, pt2_, pt3_, pt4_⟩ := only_spec va_ ca_ PR (by omega)
  have PT1 := Aside0.mk pt1_
  have PT2 := Aside0.mk pt2_
  have PT3 := Aside0.mk pt3_
  have PT4 := Aside0.mk pt4_
  clear pt1_ pt2_ pt3_ pt4_
  obtain ⟨bk, bk1_, bk2_, bk3_, bk4_⟩ := overlay_spec LS2.out LS4.out PT2.out PT4.out (by simp only [List.length_append, List.length_cons, List.length_nil]; omega)
  have BK1 := Aside0.mk bk1_
  have BK2 := Aside0.mk bk2_
  have BK3 := Aside0.mk bk3_
  have BK4 := Aside0.mk bk4_
  clear bk1_ bk2_ bk3_ bk4_
  obtain ⟨ag, ag1_, ag2_, ag3_, ag4_⟩ := overlay_spec PT2.out PT4.out LS2.out LS4.out (by simp only [List.length_append, List.length_cons, List.length_nil]; omega)
  have AG1 := Aside0.mk ag1_
  have AG2 := Aside0.mk ag2_
  have AG3 := Aside0.mk ag3_
  have AG4 := Aside0.mk ag4_
  clear ag1_ ag2_ ag3_ ag4_
  have MXA := Aside0.mk MX
  have MYA := Aside0.mk MY
  have MZA := Aside0.mk MZ
  have PCA := Aside0.mk PC
  clear ea_ va_ ca_ eb_ vb_ cb_ ec_ vc_ cc_ MX MY MZ PC PR
  go_enter Try.func7, Try.ntmps7
  go_wp2_with fail
  refine (sane_calls _).mono ?_
  rintro e w1_ ⟨rfl, h1_⟩
  replace HX := Aside0.mk ((HX.out).below h1_)
  replace HY := Aside0.mk ((HY.out).below h1_)
  replace HZ := Aside0.mk ((HZ.out).below h1_)
  replace HQ := Aside0.mk (blk_below HQ.out h1_)
  replace HB := Aside0.mk (below_step HB.out h1_)
  clear h1_
  go_wp2_with fail
  refine (MXA.out _ HX.out).mono ?_
  rintro e w2_ ⟨v2_, rfl, r2_, h2_⟩
  replace HX := Aside0.mk ((HX.out).below h2_)
  replace HY := Aside0.mk ((HY.out).below h2_)
  replace HZ := Aside0.mk ((HZ.out).below h2_)
  replace HQ := Aside0.mk (blk_below HQ.out h2_)
  replace HB := Aside0.mk (below_step HB.out h2_)
  clear h2_
  have RA := Aside0.mk r2_
  clear r2_
  clear HX
  go_wp2_with fail
  refine (MYA.out _ HY.out).mono ?_
  rintro e w3_ ⟨v3_, rfl, r3_, h3_⟩
  replace HY := Aside0.mk ((HY.out).below h3_)
  replace HZ := Aside0.mk ((HZ.out).below h3_)
  replace HQ := Aside0.mk (blk_below HQ.out h3_)
  replace RA := Aside0.mk ((RA.out).below h3_)
  replace HB := Aside0.mk (below_step HB.out h3_)
  clear h3_
  have RB := Aside0.mk r3_
  clear r3_
  clear HY
  go_wp2_with fail
  refine (MZA.out _ HZ.out).mono ?_
  rintro e w4_ ⟨v4_, rfl, r4_, h4_⟩
  replace HZ := Aside0.mk ((HZ.out).below h4_)
  replace HQ := Aside0.mk (blk_below HQ.out h4_)
  replace RA := Aside0.mk ((RA.out).below h4_)
  replace RB := Aside0.mk ((RB.out).below h4_)
  replace HB := Aside0.mk (below_step HB.out h4_)
  clear h4_
  have RC := Aside0.mk r4_
  clear r4_
  clear HZ
  have c0_ : w4_.cell? ⟨w.heap.size, 0, none⟩ = some (.int .i64 q0) := (blk_cell HQ.out 0).trans rfl
  have c1_ : w4_.cell? ⟨w.heap.size, 1, none⟩ = some (.int .i64 q1) := (blk_cell HQ.out 1).trans rfl
  go_wp2_with fail
  clear c0_ c1_
  refine (PCA.out _).mono ?_
  rintro e w5_ ⟨rfl, h5_⟩
  replace HQ := Aside0.mk (blk_below HQ.out h5_)
  replace RA := Aside0.mk ((RA.out).below h5_)
  replace RB := Aside0.mk ((RB.out).below h5_)
  replace RC := Aside0.mk ((RC.out).below h5_)
  replace HB := Aside0.mk (below_step HB.out h5_)
  clear h5_
  clear HQ
  go_wp2_with fail
  have hal_ := (Below.refl _ w5_).alloc (Nat.le_refl _) (.cells #[.int .i64 p0, .int .i64 p1] 26)
  replace RA := Aside0.mk ((RA.out).below hal_)
  replace RB := Aside0.mk ((RB.out).below hal_)
  replace RC := Aside0.mk ((RC.out).below hal_)
  replace HB := Aside0.mk (below_step HB.out hal_)
  clear hal_
  have HS := Aside0.mk (blk_new w5_ (.cells #[.int .i64 p0, .int .i64 p1] 26))
  refine (overlayV RA.out RB.out ab 0 AB1.out).mono ?_
  rintro e w6_ ⟨v6_, rfl, r6_, h6_⟩
  replace RA := Aside0.mk ((RA.out).below h6_)
  replace RB := Aside0.mk ((RB.out).below h6_)
  replace RC := Aside0.mk ((RC.out).below h6_)
  replace HS := Aside0.mk (blk_below HS.out h6_)
  replace HB := Aside0.mk (below_step HB.out h6_)
  clear h6_
  have RAB := Aside0.mk r6_
  clear r6_
  go_wp2_with fail
  refine (overlayV RAB.out RC.out abc 0 ABC1.out).mono ?_
  rintro e w7_ ⟨v7_, rfl, r7_, h7_⟩
  replace RA := Aside0.mk ((RA.out).below h7_)
  replace RB := Aside0.mk ((RB.out).below h7_)
  replace RC := Aside0.mk ((RC.out).below h7_)
  replace HS := Aside0.mk (blk_below HS.out h7_)
  replace RAB := Aside0.mk ((RAB.out).below h7_)
  replace HB := Aside0.mk (below_step HB.out h7_)
  clear h7_
  have RABC := Aside0.mk r7_
  clear r7_
  go_wp2_with fail
  refine (overlayV RB.out RC.out bc 0 BC1.out).mono ?_
  rintro e w8_ ⟨v8_, rfl, r8_, h8_⟩
  replace RA := Aside0.mk ((RA.out).below h8_)
  replace RB := Aside0.mk ((RB.out).below h8_)
  replace RC := Aside0.mk ((RC.out).below h8_)
  replace HS := Aside0.mk (blk_below HS.out h8_)
  replace RAB := Aside0.mk ((RAB.out).below h8_)
  replace RABC := Aside0.mk ((RABC.out).below h8_)
  replace HB := Aside0.mk (below_step HB.out h8_)
  clear h8_
  have RBC := Aside0.mk r8_
  clear r8_
  go_wp2_with fail
  refine (overlayV RA.out RBC.out rt 0 RT1.out).mono ?_
  rintro e w9_ ⟨v9_, rfl, r9_, h9_⟩
  replace RA := Aside0.mk ((RA.out).below h9_)
  replace RB := Aside0.mk ((RB.out).below h9_)
  replace RC := Aside0.mk ((RC.out).below h9_)
  replace HS := Aside0.mk (blk_below HS.out h9_)
  replace RAB := Aside0.mk ((RAB.out).below h9_)
  replace RABC := Aside0.mk ((RABC.out).below h9_)
  replace RBC := Aside0.mk ((RBC.out).below h9_)
  replace HB := Aside0.mk (below_step HB.out h9_)
  clear h9_
  have RRT := Aside0.mk r9_
  clear r9_
  go_wp2_with fail
  refine (overlayV RA.out RA.out sf 0 SF1.out).mono ?_
  rintro e w10_ ⟨v10_, rfl, r10_, h10_⟩
  replace RA := Aside0.mk ((RA.out).below h10_)
  replace RB := Aside0.mk ((RB.out).below h10_)
  replace RC := Aside0.mk ((RC.out).below h10_)
  replace HS := Aside0.mk (blk_below HS.out h10_)
  replace RAB := Aside0.mk ((RAB.out).below h10_)
  replace RABC := Aside0.mk ((RABC.out).below h10_)
  replace RBC := Aside0.mk ((RBC.out).below h10_)
  replace RRT := Aside0.mk ((RRT.out).below h10_)
  replace HB := Aside0.mk (below_step HB.out h10_)
  clear h10_
  have RSF := Aside0.mk r10_
  clear r10_
  have c0_ : w10_.cell? ⟨w5_.heap.size, 0, none⟩ = some (.int .i64 p0) := (blk_cell HS.out 0).trans rfl
  have c1_ : w10_.cell? ⟨w5_.heap.size, 1, none⟩ = some (.int .i64 p1) := (blk_cell HS.out 1).trans rfl
  go_wp2_with fail
  clear c0_ c1_
  refine (takeV RA.out p0 p1 ls 0 LS1.out).mono ?_
  rintro e w11_ ⟨v11_, rfl, r11_, h11_⟩
  replace RA := Aside0.mk ((RA.out).below h11_)
  replace RB := Aside0.mk ((RB.out).below h11_)
  replace RC := Aside0.mk ((RC.out).below h11_)
  replace HS := Aside0.mk (blk_below HS.out h11_)
  replace RAB := Aside0.mk ((RAB.out).below h11_)
  replace RABC := Aside0.mk ((RABC.out).below h11_)
  replace RBC := Aside0.mk ((RBC.out).below h11_)
  replace RRT := Aside0.mk ((RRT.out).below h11_)
  replace RSF := Aside0.mk ((RSF.out).below h11_)
  replace HB := Aside0.mk (below_step HB.out h11_)
  clear h11_
  have RLS := Aside0.mk r11_
  clear r11_
  have c0_ : w11_.cell? ⟨w5_.heap.size, 0, none⟩ = some (.int .i64 p0) := (blk_cell HS.out 0).trans rfl
  have c1_ : w11_.cell? ⟨w5_.heap.size, 1, none⟩ = some (.int .i64 p1) := (blk_cell HS.out 1).trans rfl
  go_wp2_with fail
  clear c0_ c1_
  refine (onlyV RA.out p0 p1 pt 0 PT1.out).mono ?_
  rintro e w12_ ⟨v12_, rfl, r12_, h12_⟩
  replace RA := Aside0.mk ((RA.out).below h12_)
  replace RB := Aside0.mk ((RB.out).below h12_)
  replace RC := Aside0.mk ((RC.out).below h12_)
  replace HS := Aside0.mk (blk_below HS.out h12_)
  replace RAB := Aside0.mk ((RAB.out).below h12_)
  replace RABC := Aside0.mk ((RABC.out).below h12_)
  replace RBC := Aside0.mk ((RBC.out).below h12_)
  replace RRT := Aside0.mk ((RRT.out).below h12_)
  replace RSF := Aside0.mk ((RSF.out).below h12_)
  replace RLS := Aside0.mk ((RLS.out).below h12_)
  replace HB := Aside0.mk (below_step HB.out h12_)
  clear h12_
  have RPT := Aside0.mk r12_
  clear r12_
  go_wp2_with fail
  refine (overlayV RLS.out RPT.out bk 0 BK1.out).mono ?_
  rintro e w13_ ⟨v13_, rfl, r13_, h13_⟩
  replace RA := Aside0.mk ((RA.out).below h13_)
  replace RB := Aside0.mk ((RB.out).below h13_)
  replace RC := Aside0.mk ((RC.out).below h13_)
  replace HS := Aside0.mk (blk_below HS.out h13_)
  replace RAB := Aside0.mk ((RAB.out).below h13_)
  replace RABC := Aside0.mk ((RABC.out).below h13_)
  replace RBC := Aside0.mk ((RBC.out).below h13_)
  replace RRT := Aside0.mk ((RRT.out).below h13_)
  replace RSF := Aside0.mk ((RSF.out).below h13_)
  replace RLS := Aside0.mk ((RLS.out).below h13_)
  replace RPT := Aside0.mk ((RPT.out).below h13_)
  replace HB := Aside0.mk (below_step HB.out h13_)
  clear h13_
  have RBK := Aside0.mk r13_
  clear r13_
  go_wp2_with fail
  refine (overlayV RPT.out RLS.out ag 0 AG1.out).mono ?_
  rintro e w14_ ⟨v14_, rfl, r14_, h14_⟩
  replace RA := Aside0.mk ((RA.out).below h14_)
  replace RB := Aside0.mk ((RB.out).below h14_)
  replace RC := Aside0.mk ((RC.out).below h14_)
  replace HS := Aside0.mk (blk_below HS.out h14_)
  replace RAB := Aside0.mk ((RAB.out).below h14_)
  replace RABC := Aside0.mk ((RABC.out).below h14_)
  replace RBC := Aside0.mk ((RBC.out).below h14_)
  replace RRT := Aside0.mk ((RRT.out).below h14_)
  replace RSF := Aside0.mk ((RSF.out).below h14_)
  replace RLS := Aside0.mk ((RLS.out).below h14_)
  replace RPT := Aside0.mk ((RPT.out).below h14_)
  replace RBK := Aside0.mk ((RBK.out).below h14_)
  replace HB := Aside0.mk (below_step HB.out h14_)
  clear h14_
  have RAG := Aside0.mk r14_
  clear r14_
  go_wp2_with fail
  refine (sameV RABC.out RRT.out (valid1000 ABC2.out) true (valid_eq ABC2.out RT2.out (fun n => by rw [ABC3.out n, AB3.out n, RT3.out n, BC3.out n]; (repeat' split) <;> first | rfl | omega))).mono ?_
  rintro e w15_ ⟨rfl, h15_⟩
  replace RA := Aside0.mk ((RA.out).below h15_)
  replace RB := Aside0.mk ((RB.out).below h15_)
  replace RC := Aside0.mk ((RC.out).below h15_)
  replace HS := Aside0.mk (blk_below HS.out h15_)
  replace RAB := Aside0.mk ((RAB.out).below h15_)
  replace RABC := Aside0.mk ((RABC.out).below h15_)
  replace RBC := Aside0.mk ((RBC.out).below h15_)
  replace RRT := Aside0.mk ((RRT.out).below h15_)
  replace RSF := Aside0.mk ((RSF.out).below h15_)
  replace RLS := Aside0.mk ((RLS.out).below h15_)
  replace RPT := Aside0.mk ((RPT.out).below h15_)
  replace RBK := Aside0.mk ((RBK.out).below h15_)
  replace RAG := Aside0.mk ((RAG.out).below h15_)
  replace HB := Aside0.mk (below_step HB.out h15_)
  clear h15_
  go_wp2_with fail
  refine (sameV RSF.out RA.out (valid1000 SF2.out) true (valid_eq SF2.out VA.out (fun n => by rw [SF3.out n]; (repeat' split) <;> first | rfl | omega))).mono ?_
  rintro e w16_ ⟨rfl, h16_⟩
  replace RA := Aside0.mk ((RA.out).below h16_)
  replace RB := Aside0.mk ((RB.out).below h16_)
  replace RC := Aside0.mk ((RC.out).below h16_)
  replace HS := Aside0.mk (blk_below HS.out h16_)
  replace RAB := Aside0.mk ((RAB.out).below h16_)
  replace RABC := Aside0.mk ((RABC.out).below h16_)
  replace RBC := Aside0.mk ((RBC.out).below h16_)
  replace RRT := Aside0.mk ((RRT.out).below h16_)
  replace RSF := Aside0.mk ((RSF.out).below h16_)
  replace RLS := Aside0.mk ((RLS.out).below h16_)
  replace RPT := Aside0.mk ((RPT.out).below h16_)
  replace RBK := Aside0.mk ((RBK.out).below h16_)
  replace RAG := Aside0.mk ((RAG.out).below h16_)
  replace HB := Aside0.mk (below_step HB.out h16_)
  clear h16_
  go_wp2_with fail
  refine (sameV RBK.out RA.out (valid1000 BK2.out) true (valid_eq BK2.out VA.out (fun n => by rw [BK3.out n, LS3.out n, PT3.out n]; (repeat' split) <;> first | rfl | omega))).mono ?_
  rintro e w17_ ⟨rfl, h17_⟩
  replace RA := Aside0.mk ((RA.out).below h17_)
  replace RB := Aside0.mk ((RB.out).below h17_)
  replace RC := Aside0.mk ((RC.out).below h17_)
  replace HS := Aside0.mk (blk_below HS.out h17_)
  replace RAB := Aside0.mk ((RAB.out).below h17_)
  replace RABC := Aside0.mk ((RABC.out).below h17_)
  replace RBC := Aside0.mk ((RBC.out).below h17_)
  replace RRT := Aside0.mk ((RRT.out).below h17_)
  replace RSF := Aside0.mk ((RSF.out).below h17_)
  replace RLS := Aside0.mk ((RLS.out).below h17_)
  replace RPT := Aside0.mk ((RPT.out).below h17_)
  replace RBK := Aside0.mk ((RBK.out).below h17_)
  replace RAG := Aside0.mk ((RAG.out).below h17_)
  replace HB := Aside0.mk (below_step HB.out h17_)
  clear h17_
  go_wp2_with fail
  refine (sameV RAG.out RA.out (valid1000 AG2.out) true (valid_eq AG2.out VA.out (fun n => by rw [AG3.out n, LS3.out n, PT3.out n]; (repeat' split) <;> first | rfl | omega))).mono ?_
  rintro e w18_ ⟨rfl, h18_⟩
  replace RA := Aside0.mk ((RA.out).below h18_)
  replace RB := Aside0.mk ((RB.out).below h18_)
  replace RC := Aside0.mk ((RC.out).below h18_)
  replace HS := Aside0.mk (blk_below HS.out h18_)
  replace RAB := Aside0.mk ((RAB.out).below h18_)
  replace RABC := Aside0.mk ((RABC.out).below h18_)
  replace RBC := Aside0.mk ((RBC.out).below h18_)
  replace RRT := Aside0.mk ((RRT.out).below h18_)
  replace RSF := Aside0.mk ((RSF.out).below h18_)
  replace RLS := Aside0.mk ((RLS.out).below h18_)
  replace RPT := Aside0.mk ((RPT.out).below h18_)
  replace RBK := Aside0.mk ((RBK.out).below h18_)
  replace RAG := Aside0.mk ((RAG.out).below h18_)
  replace HB := Aside0.mk (below_step HB.out h18_)
  clear h18_
  go_wp2_with fail
  go_ret
  exact ⟨rfl, HB.out⟩
end Go.Proofs.Ytdflgjgoikofaaa.Bk

namespace Go.Proofs.Ytdflgjgoikofaaa.Pl
open Go.Proofs.Ytdflgjgoikofaaa.Ref Go.Proofs.Ytdflgjgoikofaaa.Bk

def hD (x y : Int) : Int := if x = y then -1 else 0
theorem hD_ok (x y : Int) (_ : -1 ≤ x) (_ : x ≤ 7) (_ : -1 ≤ y) (_ : y ≤ 7) : -1 ≤ hD x y ∧ hD x y ≤ 7 := by unfold hD; split <;> omega
theorem rd26_last (i : List S53) (b : S53) : rd_T26 ((i ++ [b]).map (·.f0)) ((((i ++ [b]).map (·.f0)).length : Int) - 1) = b.f0 := by
  have e : ((((i ++ [b]).map (·.f0)).length : Int) - 1).toNat = i.length := by simp
  unfold rd_T26
  rw [e, List.getD_eq_getElem?_getD, List.getElem?_map, List.getElem?_append_right (Nat.le_refl _)]
  simp
theorem stepD_law (out : List S53) (p : Pc) (h : ∀ b ∈ out, bC b = 0) : stepD (out.map (·.f0)) p = (stepC hD out p).map (·.f0) ∧ ∀ b ∈ stepC hD out p, bC b = 0 := by
  unfold stepD stepC
  by_cases hxy : p.x = p.y
  · have e : hD p.x p.y = -1 := by unfold hD; rw [if_pos hxy]
    rw [if_pos hxy, if_pos e]
    exact ⟨rfl, h⟩
  · have e : hD p.x p.y = 0 := by unfold hD; rw [if_neg hxy]
    rw [if_neg hxy, e, if_neg (show ¬ ((0 : Int) = -1) by decide)]
    rcases snoc_cases out with rfl | ⟨i, b, rfl⟩
    · have hj : joins [] p.f 0 = false := rfl
      rw [hj]
      refine ⟨rfl, fun b hb => ?_⟩
      simp at hb
      subst hb
      rfl
    · have hb0 := h b (by simp)
      have hl : decide (0 < ((i ++ [b]).map (·.f0)).length) = true := decide_eq_true (by simp)
      have hl2 : decide (0 < (i ++ [b]).length) = true := decide_eq_true (by simp)
      rw [rd26_last, hl, Bool.true_and]
      simp only [joins, lastB_snoc, hl2, Bool.true_and]
      have hc : (bC b == 0) = true := beq_iff_eq.mpr hb0
      rw [hc, Bool.and_true]
      by_cases ht : (bT b == p.f) = true
      · have ht' : (b.f0.f1 == p.f) = true := ht
        rw [if_pos ht', if_pos ht, set_snoc]
        refine ⟨?_, fun c hcm => ?_⟩
        · have e2 : ((i ++ [b]).map (·.f0)) = i.map (·.f0) ++ [b.f0] := by simp
          have e3 : (i.map (·.f0) ++ [b.f0]).length - 1 = (i.map (·.f0)).length := by simp
          rw [e2, e3, List.set_append_right _ _ (Nat.le_refl _)]
          simp
        · rcases List.mem_append.1 hcm with hcm | hcm
          · exact h c (by simp [hcm])
          · simp at hcm; subst hcm; exact hb0
      · have ht' : ¬ (b.f0.f1 == p.f) = true := ht
        rw [if_neg ht', if_neg ht]
        refine ⟨by simp, fun c hcm => ?_⟩
        rcases List.mem_append.1 hcm with hcm | hcm
        · exact h c hcm
        · simp at hcm; subst hcm; rfl
theorem diff_comb (L : List Pc) : diffL L = (combP hD L).map (·.f0) ∧ ∀ b ∈ combP hD L, bC b = 0 := by
  refine fold_snoc_ind (P := fun L => diffL L = (combP hD L).map (·.f0) ∧ ∀ b ∈ combP hD L, bC b = 0) ⟨rfl, fun b hb => by simp [combP] at hb⟩ (fun L p ih => ?_) L
  rw [diffL_snoc, combP_snoc, ih.1]
  exact stepD_law _ p ih.2

/-- Where two maps differ: as a map that zero holds. -/
theorem differ_spec {a b : List S53} (ha : validP a = true) (hb : validP b = true) : ∃ D : List S53, differP a b = (D.map (·.f0), 0) ∧ validFrom b00 D = true ∧ (∀ c ∈ D, bC c = 0) ∧ ∀ n, hold D n = if hold a n = hold b n then -1 else 0 := by
  obtain ⟨p1, p2⟩ := pieces_law a b (validP_from ha) (validP_from hb)
  obtain ⟨y1, y2⟩ := comb_says hD hD_ok a b (validP_from ha) (validP_from hb) _ p1 p2
  obtain ⟨d1, d2⟩ := diff_comb (pieces a b)
  refine ⟨combP hD (pieces a b), by unfold differP; rw [ha, hb]; simp only [Bool.and_self, if_true]; rw [d1], y1, d2, fun n => ?_⟩
  rw [y2 n]
  by_cases hn : 0 ≤ n ∧ n < 100000000
  · rw [if_pos hn]; rfl
  · rw [if_neg hn, hold_out a (validP_from ha) n (by omega), hold_out b (validP_from hb) n (by omega), if_pos rfl]
def differsP (l : List S26) (n : Int) : Bool := l.any (fun r => inP r n)
theorem differs_hold (D : List S53) : ∀ p, validFrom p D = true → ∀ n, differsP (D.map (·.f0)) n = decide (hold D n ≠ -1) := by
  induction D with
  | nil => intro p _ n; simp [differsP, hold_n]
  | cons b D ih =>
    intro p h n
    have hb := validFrom_cons h
    have := ih b hb.2 n
    simp only [differsP, List.map_cons, List.any_cons] at this ⊢
    rw [this, hold_c]
    by_cases hn : bF b ≤ n ∧ n < bT b
    · rw [if_pos hn]
      have e : inP b.f0 n = true := by simp only [inP, Bool.and_eq_true, decide_eq_true_eq]; exact hn
      rw [e, Bool.true_or]
      exact (decide_eq_true (by omega)).symm
    · rw [if_neg hn]
      have e : inP b.f0 n = false := by
        cases hi : inP b.f0 n with
        | false => rfl
        | true => simp only [inP, Bool.and_eq_true, decide_eq_true_eq] at hi; exact absurd hi hn
      rw [e, Bool.false_or]
end Go.Proofs.Ytdflgjgoikofaaa.Pl

set_option linter.unusedVariables false
namespace Go.Proofs.Ytdflgjgoikofaaa.Bk
open Go.RowKit Go.Shelf Go.Proofs.YtdflgjgoikofaaaW.PrintWords Go.Proofs.YtdflgjgoikofaaaW.PrintLast Go.Proofs.YtdflgjgoikofaaaW.PrintMore
open Go.Proofs.Ytdflgjgoikofaaa.Ref Go.Proofs.Ytdflgjgoikofaaa.Pl Go.Proofs.Ytdflgjgoikofaaa.Rg

theorem any_drop (l : List S26) (n : Int) (i : Nat) (hi : i < l.length) : differsP (l.drop i) n = (inP (l.getD i z26) n || differsP (l.drop (i + 1)) n) := by
  rw [List.drop_eq_getElem_cons hi, List.getD_eq_getElem?_getD, List.getElem?_eq_getElem hi]
  rfl
set_option maxHeartbeats 1000000 in
theorem differs_calls (l : List S26) (A : Option Addr) (c : Nat) (n : Int) (w : World) (hl : Kd.C k26 w A l.length l) (hc : l.length ≤ c) (hlen : l.length ≤ 1000000) :
    Calls Try.prog 28 #[.slice A l.length c, .int .i64 n] w fun e w' => e = .returned (.bool (differsP l n)) ∧ Below w.heap.size w w' := by
  have HL := Aside0.mk hl
  have HLEN := Aside0.mk hlen
  clear hl hc hlen
  go_enter Try.func28, Try.ntmps28
  go_wp2_with fail
  go_loopg [5] l.length (fun kq v5 wr => ∃ (i : Nat), v5 = .int .i64 (i : Int) ∧ Aside0 (i + kq = l.length) ∧ Aside0 (differsP l n = differsP (l.drop i) n) ∧ Aside0 (Below w.heap.size w wr))
  case atStart => exact ⟨0, rfl, ⟨by omega⟩, ⟨rfl⟩, ⟨Below.refl _ _⟩⟩
  case round =>
    obtain ⟨i, rfl, HK, HD, HB⟩ := hrel
    by_cases hi : i < l.length
    · have hib : decide ((i : Int) < (l.length : Int)) = true := decide_eq_true (by omega)
      have q1 := eq_true (show (i : Int) < (l.length : Int) by omega)
      have q2 := eq_true (show (0 : Int) ≤ (i : Int) by omega)
      have i9 : i ≤ 1000000 := by have := HLEN.out; omega
      obtain ⟨ad, rfl, c0, c1⟩ := at_T26 (Kd.C_below HL.out HB.out) (i : Int) (by omega) (by omega)
      simp only [Int.toNat_natCast, rd_T26] at c0 c1
      have hs := any_drop l n i hi
      generalize l.getD i z26 = x at c0 c1 hs
      have HS := Aside0.mk hs
      have HI := Aside0.mk hi
      clear hs hi
      go_wp2_with fail
      refine (in_calls x.f0 x.f1 n _).mono ?_
      rintro e w1 ⟨rfl, h1⟩
      have HB1 := Aside0.mk (below_step HB.out h1)
      clear h1 c0 c1
      cases hx : inP ⟨x.f0, x.f1⟩ n with
      | true =>
        have HT := Aside0.mk (show differsP l n = true from HD.out.trans (HS.out.trans (by rw [show inP x n = true from hx]; rfl)))
        go_wp2_with fail
        go_ret
        exact ⟨by rw [HT.out]; rfl, HB1.out⟩
      | false =>
        have HT := Aside0.mk (show differsP l n = differsP (l.drop (i + 1)) n from HD.out.trans (HS.out.trans (by rw [show inP x n = false from hx]; rfl)))
        go_wp2_with fail
        go_roundg (l.length - (i + 1))
        case measure => have := HK.out; have := HI.out; omega
        case rel => exact ⟨i + 1, by go_num, ⟨by have := HK.out; have := HI.out; omega⟩, HT, HB1⟩
    · have hib : decide ((i : Int) < (l.length : Int)) = false := decide_eq_false (by omega)
      have q1 := eq_false (show ¬ (i : Int) < (l.length : Int) by omega)
      have HT := Aside0.mk (show differsP l n = false by rw [HD.out, List.drop_of_length_le (by omega)]; rfl)
      clear hi
      go_wp2_with fail
      go_ret
      exact ⟨by rw [HT.out]; rfl, HB.out⟩
theorem differsV {l : List S26} {v : Value} {w : World} (h : Rw2 w l v) (hlen : l.length ≤ 1000000) (n : Int) (b : Bool) (hr : differsP l n = b) : Calls Try.prog 28 #[v, .int .i64 n] w fun e w' => e = .returned (.bool b) ∧ Below w.heap.size w w' := by
  obtain ⟨A, c, rfl, hc, hC⟩ := h
  exact (differs_calls l A c n w hC hc hlen).mono fun e w' h' => by rw [hr] at h'; exact h'
end Go.Proofs.Ytdflgjgoikofaaa.Bk

namespace Go.Proofs.Ytdflgjgoikofaaa.Pl
open Go.Proofs.Ytdflgjgoikofaaa.Ref Go.Proofs.Ytdflgjgoikofaaa.Bk

/-- The sum of f over 0 .. k-1. -/
def sumN (f : Int → Int) : Nat → Int
  | 0 => 0
  | k + 1 => sumN f k + f k
theorem sumN_lin (f g h : Int → Int) (hfg : ∀ n, f n = g n + h n) : ∀ k, sumN f k = sumN g k + sumN h k := by
  intro k
  induction k with
  | zero => rfl
  | succ k ih => simp only [sumN, ih, hfg]; omega
theorem sumN_same (f g : Int → Int) (hfg : ∀ n, f n = g n) : ∀ k, sumN f k = sumN g k := by
  intro k
  induction k with
  | zero => rfl
  | succ k ih => simp only [sumN, ih, hfg]
theorem sumN_zero (k : Nat) : sumN (fun _ => 0) k = 0 := by
  induction k with
  | zero => rfl
  | succ k ih => simp only [sumN, ih]; omega
def ind (p : Bool) : Int := if p then 1 else 0
/-- The length of a stretch as a sum. -/
theorem sumN_len (f t : Int) (h0 : 0 ≤ f) (hft : f ≤ t) : ∀ k : Nat, sumN (fun n => ind (decide (f ≤ n ∧ n < t))) k = max 0 (min t k - min f k) := by
  intro k
  induction k with
  | zero => simp only [sumN]; omega
  | succ k ih =>
    simp only [sumN]
    rw [ih]
    unfold ind
    by_cases h : f ≤ (k : Int) ∧ (k : Int) < t
    · rw [if_pos (by simpa using h)]; omega
    · rw [if_neg (by simpa using h)]; omega
theorem sumN_range (f t : Int) (h0 : 0 ≤ f) (hft : f ≤ t) (ht : t ≤ 100000000) : sumN (fun n => ind (decide (f ≤ n ∧ n < t))) 100000000 = t - f := by
  rw [sumN_len f t h0 hft]; omega
/-- A carrier's count is the number of numbers that it holds. -/
theorem cnt_sum (c : Int) (hc : 0 ≤ c) (l : List S53) : ∀ p, validFrom p l = true → 0 ≤ bT p → cnt c l = sumN (fun n => ind (decide (hold l n = c))) 100000000 := by
  induction l with
  | nil =>
    intro p _ _
    rw [sumN_same _ (fun _ => 0) (fun n => by rw [hold_n]; unfold ind; rw [if_neg (by simp; omega)]), sumN_zero]
    rfl
  | cons b l ih =>
    intro p h hp
    have hb := validFrom_cons h
    have hi := ih b hb.2 (by omega)
    simp only [cnt]
    rw [hi]
    have hlow := hold_low l b hb.2
    by_cases hbc : bC b = c
    · rw [if_pos hbc, ← sumN_range (bF b) (bT b) (by omega) (by omega) (by omega)]
      refine (sumN_lin _ _ _ (fun n => ?_) _).symm
      rw [hold_c]
      by_cases hn : bF b ≤ n ∧ n < bT b
      · rw [if_pos hn, hlow n (by omega)]
        unfold ind
        rw [if_pos (by simpa using hbc), if_pos (by simpa using hn), if_neg (by simp; omega)]
        rfl
      · rw [if_neg hn]
        have : decide (bF b ≤ n ∧ n < bT b) = false := decide_eq_false hn
        rw [this]
        unfold ind
        simp
    · rw [if_neg hbc, Int.zero_add]
      refine sumN_same _ _ (fun n => ?_) _
      rw [hold_c]
      by_cases hn : bF b ≤ n ∧ n < bT b
      · rw [if_pos hn, hlow n (by omega)]
        unfold ind
        rw [if_neg (by simp; omega), if_neg (by simpa using hbc)]
      · rw [if_neg hn]
/-- The numbers that somebody holds. -/
def lens : List S53 → Int
  | [] => 0
  | b :: l => bT b - bF b + lens l
def heldN (l : List S53) : Int := sumN (fun n => ind (decide (0 ≤ hold l n))) 100000000
theorem total_lens (l : List S53) : ∀ p, validFrom p l = true → cnt 0 l + cnt 1 l + cnt 2 l + cnt 3 l + cnt 4 l + cnt 5 l + cnt 6 l + cnt 7 l = lens l := by
  induction l with
  | nil => intro p _; rfl
  | cons b l ih =>
    intro p h
    have hb := validFrom_cons h
    have := ih b hb.2
    simp only [cnt, lens]
    have hc : bC b = 0 ∨ bC b = 1 ∨ bC b = 2 ∨ bC b = 3 ∨ bC b = 4 ∨ bC b = 5 ∨ bC b = 6 ∨ bC b = 7 := by omega
    rcases hc with hc | hc | hc | hc | hc | hc | hc | hc <;> rw [hc] <;> simp <;> omega
theorem totalP_lens {l : List S53} (h : validP l = true) : totalP l = lens l := by
  rw [← total_lens l b00 (validP_from h)]
  have e : ∀ c, cntP l c = cnt c l := fun c => by unfold cntP; rw [if_pos h]
  simp only [totalP, totalF, e]
  simp
theorem lens_held (l : List S53) : ∀ p, validFrom p l = true → 0 ≤ bT p → lens l = heldN l := by
  induction l with
  | nil =>
    intro p _ _
    unfold heldN
    rw [sumN_same _ (fun _ => 0) (fun n => by rw [hold_n]; rfl), sumN_zero]
    rfl
  | cons b l ih =>
    intro p h hp
    have hb := validFrom_cons h
    have hi := ih b hb.2 (by omega)
    have hlow := hold_low l b hb.2
    simp only [lens]
    rw [hi]
    unfold heldN
    rw [← sumN_range (bF b) (bT b) (by omega) (by omega) (by omega)]
    refine (sumN_lin _ _ _ (fun n => ?_) _).symm
    rw [hold_c]
    by_cases hn : bF b ≤ n ∧ n < bT b
    · rw [if_pos hn, hlow n (by omega)]
      unfold ind
      rw [if_pos (by simp; omega), if_pos (by simpa using hn), if_neg (by simp)]
      rfl
    · rw [if_neg hn]
      have : decide (bF b ≤ n ∧ n < bT b) = false := decide_eq_false hn
      rw [this]
      unfold ind
      simp
end Go.Proofs.Ytdflgjgoikofaaa.Pl

namespace Go.Proofs.Ytdflgjgoikofaaa.Pl
open Go.Proofs.Ytdflgjgoikofaaa.Ref Go.Proofs.Ytdflgjgoikofaaa.Bk
theorem op_specG (h : Int → Int → Int) (hh : ∀ x y, -1 ≤ x → x ≤ 7 → -1 ≤ y → y ≤ 7 → -1 ≤ h x y ∧ h x y ≤ 7) (h0 : h (-1) (-1) = -1) (a b : List S53) (ha : validFrom b00 a = true) (hb : validFrom b00 b = true) (G : List Int)
    (hG : ∀ n, h (hold a n) (hold b n) ≠ h (hold a (n - 1)) (hold b (n - 1)) → n ∈ G) (hlen : G.length ≤ 40) :
    ∃ out, fin (combP h (pieces a b)) = (out, 0) ∧ validP out = true ∧ (∀ n, hold out n = h (hold a n) (hold b n)) ∧ Cut out G := by
  obtain ⟨p1, p2⟩ := pieces_law a b ha hb
  obtain ⟨y1, y2⟩ := comb_says h hh a b ha hb _ p1 p2
  have hn : ∀ n, hold (combP h (pieces a b)) n = h (hold a n) (hold b n) := by
    intro n
    rw [y2 n]
    by_cases hn : 0 ≤ n ∧ n < 100000000
    · rw [if_pos hn]
    · rw [if_neg hn, hold_out a ha n (by omega), hold_out b hb n (by omega), h0]
  have hcut : Cut (combP h (pieces a b)) G := by
    intro n hne
    rw [hn, hn] at hne
    exact hG n hne
  have hl := cut_len y1 hcut
  refine ⟨_, by unfold fin; rw [if_pos (by omega)], ?_, hn, hcut⟩
  rw [validP, y1, Bool.and_true]
  exact decide_eq_true (by omega)
end Go.Proofs.Ytdflgjgoikofaaa.Pl

namespace Go.Proofs.Ytdflgjgoikofaaa.Pl
open Go.Proofs.Ytdflgjgoikofaaa.Ref Go.Proofs.Ytdflgjgoikofaaa.Bk
theorem hold_change (l : List S53) : ∀ n, hold l n ≠ hold l (n - 1) → ∃ b ∈ l, n = bF b ∨ n = bT b := by
  induction l with
  | nil => intro n h; exact absurd rfl h
  | cons c l ih =>
    intro n h
    rw [hold_c, hold_c] at h
    by_cases h1 : bF c ≤ n ∧ n < bT c
    · by_cases h2 : bF c ≤ n - 1 ∧ n - 1 < bT c
      · rw [if_pos h1, if_pos h2] at h; exact absurd rfl h
      · exact ⟨c, by simp, .inl (by omega)⟩
    · by_cases h2 : bF c ≤ n - 1 ∧ n - 1 < bT c
      · exact ⟨c, by simp, .inr (by omega)⟩
      · rw [if_neg h1, if_neg h2] at h
        obtain ⟨b, hb, e⟩ := ih n h
        exact ⟨b, by simp [hb], e⟩
theorem end_at (l : List S53) : ∀ p, validFrom p l = true → ∀ b ∈ l, hold l (bT b - 1) = bC b ∧ hold l (bT b) ≠ bC b := by
  induction l with
  | nil => intro p _ b hb; simp at hb
  | cons c l ih =>
    intro p h b hb
    have hc := validFrom_cons h
    rcases List.mem_cons.1 hb with rfl | hb
    · exact ⟨by rw [hold_c, if_pos (by omega)], by rw [hold_c, if_neg (by omega)]; exact hold_second h⟩
    · obtain ⟨i1, i2⟩ := ih c hc.2 b hb
      have hlow := (change_at l c hc.2 b hb).2.2
      have hlt := valid_mem_bounds l c hc.2 (by omega) b hb
      exact ⟨by rw [hold_c, if_neg (by omega)]; exact i1, by rw [hold_c, if_neg (by omega)]; exact i2⟩
end Go.Proofs.Ytdflgjgoikofaaa.Pl

namespace Go.Proofs.Ytdflgjgoikofaaa.Pl
open Go.Proofs.Ytdflgjgoikofaaa.Ref Go.Proofs.Ytdflgjgoikofaaa.Bk
theorem validFrom_take (l : List S53) : ∀ p i, validFrom p l = true → validFrom p (l.take i) = true := by
  induction l with
  | nil => intro p i h; simpa using h
  | cons b l ih =>
    intro p i h
    cases i with
    | zero => rfl
    | succ i =>
      simp only [List.take_succ_cons, validFrom, Bool.and_eq_true] at h ⊢
      exact ⟨h.1, ih b i h.2⟩
/-- The ends of a difference are changes of one of the two maps. -/
theorem ends_cut {a b D : List S53} {E F : List Int} (hE : Cut a E) (hF : Cut b F) (hv : validFrom b00 D = true) (h0 : ∀ c ∈ D, bC c = 0) (hD : ∀ n, hold D n = if hold a n = hold b n then -1 else 0) : ∀ c ∈ D, bF c ∈ E ++ F ∧ bT c ∈ E ++ F := by
  intro c hc
  have hz := h0 c hc
  obtain ⟨s1, s2, _⟩ := change_at D b00 hv c hc
  obtain ⟨t1, t2⟩ := end_at D b00 hv c hc
  rw [hz, hD] at s1 s2 t1 t2
  constructor
  · by_cases h1 : hold a (bF c) = hold a (bF c - 1)
    · by_cases h2 : hold b (bF c) = hold b (bF c - 1)
      · rw [← h1, ← h2] at s2; exact absurd s1 s2
      · exact List.mem_append.2 (.inr (hF _ h2))
    · exact List.mem_append.2 (.inl (hE _ h1))
  · by_cases h1 : hold a (bT c) = hold a (bT c - 1)
    · by_cases h2 : hold b (bT c) = hold b (bT c - 1)
      · rw [h1, h2] at t2; exact absurd t1 t2
      · exact List.mem_append.2 (.inr (hF _ h2))
    · exact List.mem_append.2 (.inl (hE _ h1))
/-- What is held once the first differences are made. -/
def mix (a b P : List S53) (n : Int) : Int := if hold P n = -1 then hold a n else hold b n
theorem mix_cut {a b D : List S53} {E F : List Int} (hE : Cut a E) (hF : Cut b F) (hends : ∀ c ∈ D, bF c ∈ E ++ F ∧ bT c ∈ E ++ F) (i : Nat) : ∀ n, mix a b (D.take i) n ≠ mix a b (D.take i) (n - 1) → n ∈ E ++ F := by
  intro n hne
  by_cases hp : hold (D.take i) n = hold (D.take i) (n - 1)
  · by_cases h1 : hold a n = hold a (n - 1)
    · by_cases h2 : hold b n = hold b (n - 1)
      · exact absurd (by unfold mix; rw [hp, h1, h2]) hne
      · exact List.mem_append.2 (.inr (hF _ h2))
    · exact List.mem_append.2 (.inl (hE _ h1))
  · obtain ⟨c, hc, e⟩ := hold_change _ n hp
    have := hends c (List.mem_of_mem_take hc)
    rcases e with rfl | rfl
    · exact this.1
    · exact this.2
theorem step_made {a b D : List S53} {E F : List Int} (hE : Cut a E) (hF : Cut b F) (hlen : (E ++ F).length ≤ 40) (hb : validP b = true) (hv : validFrom b00 D = true) (h0 : ∀ c ∈ D, bC c = 0)
    (hD : ∀ n, hold D n = if hold a n = hold b n then -1 else 0) (i : Nat) (hi : i < D.length) {now : List S53} (hw : validP now = true) (hn : ∀ n, hold now n = mix a b (D.take i) n) :
    ∃ ls pt nx, takeP now (bF (D.getD i z53)) (bT (D.getD i z53)) = (ls, 0) ∧ onlyR b (bF (D.getD i z53)) (bT (D.getD i z53)) = (pt, 0) ∧ overlayP ls pt = (nx, 0) ∧ validP nx = true ∧ ∀ n, hold nx n = mix a b (D.take (i + 1)) n := by
  have hends := ends_cut hE hF hv h0 hD
  have hr : D.getD i z53 ∈ D := by rw [List.getD_eq_getElem?_getD, List.getElem?_eq_getElem hi]; exact List.getElem_mem hi
  have hsn := take_snoc53 D i hi
  have hvt := validFrom_take D b00 i hv
  have hmix := mix_cut hE hF hends i
  have hmix1 := mix_cut hE hF hends (i + 1)
  have hbd := valid_mem_bounds D b00 hv (by decide) _ hr
  have hrc := h0 _ hr
  have hre := hends _ hr
  generalize D.getD i z53 = r at *
  have hrange : rangeB (bF r) (bT r) = true := by simp only [rangeB, Bool.and_eq_true, decide_eq_true_eq]; omega
  have hone := one_valid (c := 0) hrange (by decide)
  have hlow : ∀ n, bF r ≤ n → n < bT r → hold (D.take i) n = -1 := by
    intro n h1 h2
    have hvs : validFrom b00 (D.take i ++ [r]) = true := by rw [← hsn]; exact validFrom_take D b00 (i + 1) hv
    rw [validFrom_snoc, Bool.and_eq_true, Bool.not_eq_true'] at hvs
    exact hold_high _ b00 hvs.1 n (by have := badB_false hvs.2; omega)
  have hP : ∀ n, hold (D.take (i + 1)) n = if bF r ≤ n ∧ n < bT r then 0 else hold (D.take i) n := by
    intro n
    rw [hsn, hold_snoc _ _ b00 hvt n]
    by_cases h : bF r ≤ n ∧ n < bT r
    · rw [if_pos h, if_pos (hlow n h.1 h.2), if_pos h, hrc]
    · rw [if_neg h, if_neg h]; split
      · rename_i e; exact e.symm
      · rfl
  have hcutn : Cut now (E ++ F) := fun n hne => hmix n (by rw [← hn, ← hn]; exact hne)
  have hin : ∀ n, ((bF r ≤ n ∧ n < bT r) ↔ (bF r ≤ n - 1 ∧ n - 1 < bT r)) ∨ n ∈ E ++ F := by
    intro n
    by_cases h1 : n = bF r
    · exact .inr (h1 ▸ hre.1)
    · by_cases h2 : n = bT r
      · exact .inr (h2 ▸ hre.2)
      · exact .inl (by omega)
  obtain ⟨ls, l1, l2, l3, _⟩ := op_specG awayP away_ok rfl now [⟨⟨bF r, bT r⟩, 0⟩] (validP_from hw) hone (E ++ F) (fun n hne => by
    rcases hin n with h | h
    · refine hcutn n (fun e => hne ?_)
      rw [hold_one, hold_one, e]
      by_cases hx : bF r ≤ n ∧ n < bT r
      · rw [if_pos hx, if_pos (h.1 hx)]
      · rw [if_neg hx, if_neg (fun h' => hx (h.2 h'))]
    · exact h) hlen
  obtain ⟨pt, q1, q2, q3, _⟩ := op_specG onlyP only_ok rfl b [⟨⟨bF r, bT r⟩, 0⟩] (validP_from hb) hone (E ++ F) (fun n hne => by
    rcases hin n with h | h
    · refine List.mem_append.2 (.inr (hF n (fun e => hne ?_)))
      rw [hold_one, hold_one, e]
      by_cases hx : bF r ≤ n ∧ n < bT r
      · rw [if_pos hx, if_pos (h.1 hx)]
      · rw [if_neg hx, if_neg (fun h' => hx (h.2 h'))]
    · exact h) hlen
  have hkey : ∀ n, overP (hold ls n) (hold pt n) = mix a b (D.take (i + 1)) n := by
    intro n
    rw [l3 n, q3 n, hold_one, hn n]
    unfold mix
    rw [hP n]
    by_cases hx : bF r ≤ n ∧ n < bT r
    · have e1 : ∀ z, overP (awayP z 0) (onlyP (hold b n) 0) = hold b n := by
        intro z
        have a1 : awayP z 0 = -1 := if_neg (by decide)
        have a2 : onlyP (hold b n) 0 = hold b n := if_neg (by decide)
        rw [a1, a2]
        unfold overP
        split
        · rename_i e; exact e.symm
        · rfl
      rw [if_pos hx, if_pos hx, if_neg (show ¬ ((0 : Int) = -1) by decide)]
      exact e1 _
    · rw [if_neg hx, if_neg hx]
      unfold overP awayP onlyP
      rw [if_pos rfl, if_pos rfl, if_pos rfl]
  obtain ⟨nx, x1, x2, x3, _⟩ := op_specG overP over_ok rfl ls pt (validP_from l2) (validP_from q2) (E ++ F) (fun n hne => hmix1 n (by rw [← hkey, ← hkey]; exact hne)) hlen
  refine ⟨ls, pt, nx, by rw [takeP, hw, hrange]; exact l1, by rw [onlyR, hb, hrange]; exact q1, by rw [overlayP, l2, q2]; exact x1, x2, fun n => by rw [x3 n, hkey n]⟩
end Go.Proofs.Ytdflgjgoikofaaa.Pl

namespace Go.Proofs.Ytdflgjgoikofaaa.Pl
open Go.Proofs.Ytdflgjgoikofaaa.Ref Go.Proofs.Ytdflgjgoikofaaa.Bk

theorem cnt_zero (c : Int) (hc : c < 0 ∨ 7 < c) (l : List S53) : ∀ p, validFrom p l = true → cnt c l = 0 := by
  induction l with
  | nil => intro p _; rfl
  | cons b l ih =>
    intro p h
    have hb := validFrom_cons h
    have := ih b hb.2
    simp only [cnt]
    rw [if_neg (by omega)]
    omega
theorem lens_bound (l : List S53) : ∀ p, validFrom p l = true → bT p ≤ 100000000 → 0 ≤ lens l ∧ lens l ≤ 100000000 - bT p := by
  induction l with
  | nil => intro p _ _; simp only [lens]; omega
  | cons b l ih =>
    intro p h hp
    have hb := validFrom_cons h
    have := ih b hb.2 (by omega)
    simp only [lens]
    omega
theorem cnt_le_lens (c : Int) (l : List S53) : ∀ p, validFrom p l = true → 0 ≤ cnt c l ∧ cnt c l ≤ lens l := by
  induction l with
  | nil => intro p _; simp only [lens, cnt]; omega
  | cons b l ih =>
    intro p h
    have hb := validFrom_cons h
    have := ih b hb.2
    simp only [lens, cnt]
    split <;> omega
theorem cntP_eq {l : List S53} (h : validP l = true) (c : Int) : cntP l c = cnt c l := by unfold cntP; rw [if_pos h]
theorem cntP_bound {l : List S53} (h : validP l = true) (c : Int) : 0 ≤ cntP l c ∧ cntP l c ≤ 100000000 := by
  have h1 := cnt_le_lens c l b00 (validP_from h)
  have h2 := lens_bound l b00 (validP_from h) (by decide)
  have h3 : bT b00 = 0 := rfl
  rw [cntP_eq h]
  omega
theorem totalP_bound {l : List S53} (h : validP l = true) : 0 ≤ totalP l ∧ totalP l ≤ 100000000 := by
  have h2 := lens_bound l b00 (validP_from h) (by decide)
  have h3 : bT b00 = 0 := rfl
  rw [totalP_lens h]
  omega
theorem sumN_four (f g h k : Int → Int) (H : ∀ n, f n + g n = h n + k n) : ∀ K, sumN f K + sumN g K = sumN h K + sumN k K := by
  intro K
  induction K with
  | zero => rfl
  | succ K ih => have := H K; simp only [sumN]; omega
theorem ind_t {p : Prop} [Decidable p] (h : p) : ind (decide p) = 1 := by rw [decide_eq_true h]; rfl
theorem ind_f {p : Prop} [Decidable p] (h : ¬ p) : ind (decide p) = 0 := by rw [decide_eq_false h]; rfl
section
variable {a : List S53} (ha : validP a = true)
include ha
theorem counts_give {g pt : List S53} {f t c : Int} (hg : validP g = true) (hp : validP pt = true) (hr : rangeB f t = true) (hc : carrB c = true) (h1 : ∀ n, hold g n = if f ≤ n ∧ n < t then c else hold a n) (h2 : ∀ n, hold pt n = if f ≤ n ∧ n < t then hold a n else -1) :
    cntP g c = cntP a c + t - f - cntP pt c := by
  simp only [rangeB, carrB, Bool.and_eq_true, decide_eq_true_eq] at hr hc
  rw [cntP_eq ha, cntP_eq hg, cntP_eq hp, cnt_sum c (by omega) a b00 (validP_from ha) (by decide), cnt_sum c (by omega) g b00 (validP_from hg) (by decide), cnt_sum c (by omega) pt b00 (validP_from hp) (by decide)]
  have hs := sumN_range f t (by omega) (by omega) (by omega)
  have := sumN_four (fun n => ind (decide (hold g n = c))) (fun n => ind (decide (hold pt n = c))) (fun n => ind (decide (hold a n = c))) (fun n => ind (decide (f ≤ n ∧ n < t))) (fun n => by
    show ind (decide (hold g n = c)) + ind (decide (hold pt n = c)) = ind (decide (hold a n = c)) + ind (decide (f ≤ n ∧ n < t))
    rw [h1 n, h2 n]
    by_cases hn : f ≤ n ∧ n < t
    · rw [if_pos hn, if_pos hn, ind_t rfl, ind_t hn]; omega
    · rw [if_neg hn, if_neg hn, ind_f hn, ind_f (show ¬ (-1 = c) by omega)]) 100000000
  omega
theorem totals_take {ls pt : List S53} {f t : Int} (hl : validP ls = true) (hp : validP pt = true) (h1 : ∀ n, hold ls n = if f ≤ n ∧ n < t then -1 else hold a n) (h2 : ∀ n, hold pt n = if f ≤ n ∧ n < t then hold a n else -1) :
    totalP ls = lens a - totalP pt := by
  rw [totalP_lens hl, totalP_lens hp, lens_held a b00 (validP_from ha) (by decide), lens_held ls b00 (validP_from hl) (by decide), lens_held pt b00 (validP_from hp) (by decide)]
  have := sumN_four (fun n => ind (decide (0 ≤ hold ls n))) (fun n => ind (decide (0 ≤ hold pt n))) (fun n => ind (decide (0 ≤ hold a n))) (fun _ => 0) (fun n => by
    show ind (decide (0 ≤ hold ls n)) + ind (decide (0 ≤ hold pt n)) = ind (decide (0 ≤ hold a n)) + 0
    rw [h1 n, h2 n]
    by_cases hn : f ≤ n ∧ n < t
    · rw [if_pos hn, if_pos hn, ind_f (show ¬ ((0 : Int) ≤ -1) by decide)]; omega
    · rw [if_neg hn, if_neg hn, ind_f (show ¬ ((0 : Int) ≤ -1) by decide)]) 100000000
  have h0 := sumN_zero 100000000
  unfold heldN
  omega
variable {sw : List S53} {f t : Int} (hs : validP sw = true) (hf : carrB f = true) (ht : carrB t = true) (h1 : ∀ n, hold sw n = if hold a n = f then t else hold a n)
include hs hf ht h1
theorem total_swap : totalP sw = lens a := by
  simp only [carrB, Bool.and_eq_true, decide_eq_true_eq] at hf ht
  rw [totalP_lens hs, lens_held a b00 (validP_from ha) (by decide), lens_held sw b00 (validP_from hs) (by decide)]
  unfold heldN
  refine sumN_same _ _ (fun n => ?_) _
  show ind (decide (0 ≤ hold sw n)) = ind (decide (0 ≤ hold a n))
  rw [h1 n]
  by_cases hn : hold a n = f
  · rw [if_pos hn, hn, ind_t ht.1, ind_t hf.1]
  · rw [if_neg hn]
theorem cnt_swap_to (hne : f ≠ t) : cntP sw t = cntP a t + cntP a f := by
  simp only [carrB, Bool.and_eq_true, decide_eq_true_eq] at hf ht
  rw [cntP_eq ha, cntP_eq hs, cntP_eq ha, cnt_sum t (by omega) a b00 (validP_from ha) (by decide), cnt_sum t (by omega) sw b00 (validP_from hs) (by decide), cnt_sum f (by omega) a b00 (validP_from ha) (by decide)]
  refine sumN_lin _ _ _ (fun n => ?_) _
  show ind (decide (hold sw n = t)) = ind (decide (hold a n = t)) + ind (decide (hold a n = f))
  rw [h1 n]
  by_cases hn : hold a n = f
  · rw [if_pos hn, ind_t rfl, ind_t hn, ind_f (show ¬ hold a n = t by omega)]; rfl
  · rw [if_neg hn, ind_f hn]; omega
omit ha ht in
theorem cnt_swap_from (hne : f ≠ t) : cntP sw f = 0 := by
  simp only [carrB, Bool.and_eq_true, decide_eq_true_eq] at hf
  rw [cntP_eq hs, cnt_sum f (by omega) sw b00 (validP_from hs) (by decide), sumN_same _ (fun _ => 0) (fun n => ?_), sumN_zero]
  show ind (decide (hold sw n = f)) = 0
  rw [h1 n]
  by_cases hn : hold a n = f
  · rw [if_pos hn, ind_f (fun e => hne e.symm)]
  · rw [if_neg hn, ind_f hn]
end
theorem lens_snoc (l : List S53) (b : S53) : lens (l ++ [b]) = lens l + (bT b - bF b) := by
  induction l with
  | nil => simp only [List.nil_append, lens]; omega
  | cons c l ih => simp only [List.cons_append, lens, ih]; omega
theorem lens_take (l : List S53) (i : Nat) (hi : i < l.length) : lens (l.take (i + 1)) = lens (l.take i) + (bT (l.getD i z53) - bF (l.getD i z53)) := by
  rw [take_snoc53 l i hi, lens_snoc]
theorem validFrom_take' (l : List S53) : ∀ p i, validFrom p l = true → validFrom p (l.take i) = true := by
  induction l with
  | nil => intro p i h; simpa using h
  | cons b l ih =>
    intro p i h
    cases i with
    | zero => rfl
    | succ i =>
      simp only [List.take_succ_cons, validFrom, Bool.and_eq_true] at h ⊢
      exact ⟨h.1, ih b i h.2⟩
theorem valid_mem_carr (l : List S53) : ∀ p, validFrom p l = true → ∀ b ∈ l, 0 ≤ bC b ∧ bC b ≤ 7 := by
  induction l with
  | nil => intro p _ b hb; simp at hb
  | cons c l ih =>
    intro p h b hb
    have hc := validFrom_cons h
    rcases List.mem_cons.1 hb with rfl | hb
    · omega
    · exact ih c hc.2 b hb
theorem getD_bounds {l : List S53} (h : validP l = true) (i : Nat) (hi : i < l.length) : 0 ≤ bF (l.getD i z53) ∧ bF (l.getD i z53) < bT (l.getD i z53) ∧ bT (l.getD i z53) ≤ 100000000 ∧ 0 ≤ bC (l.getD i z53) ∧ bC (l.getD i z53) ≤ 7 := by
  have hr : l.getD i z53 ∈ l := by rw [List.getD_eq_getElem?_getD, List.getElem?_eq_getElem hi]; exact List.getElem_mem hi
  have h1 := valid_mem_bounds l b00 (validP_from h) (by decide) _ hr
  have h2 := valid_mem_carr l b00 (validP_from h) _ hr
  omega
end Go.Proofs.Ytdflgjgoikofaaa.Pl

namespace Go.Proofs.Ytdflgjgoikofaaa.Pl
open Go.Proofs.Ytdflgjgoikofaaa.Ref Go.Proofs.Ytdflgjgoikofaaa.Bk

theorem pair_bounds (l : List S53) : ∀ p, validFrom p l = true → ∀ i, i + 1 < l.length → bT (l.getD i z53) ≤ bF (l.getD (i + 1) z53) ∧ ¬ (bF (l.getD (i + 1) z53) = bT (l.getD i z53) ∧ bC (l.getD (i + 1) z53) = bC (l.getD i z53)) := by
  induction l with
  | nil => intro p _ i hi; simp at hi
  | cons b l ih =>
    intro p h i hi
    have hb := validFrom_cons h
    cases i with
    | zero =>
      cases l with
      | nil => simp at hi
      | cons c l =>
        have hc := validFrom_cons hb.2
        exact ⟨hc.1.2.2.2.2.2.1, hc.1.2.2.2.2.2.2⟩
    | succ i => exact ih b hb.2 i (by simpa using hi)
theorem hold_in (l : List S53) : ∀ p, validFrom p l = true → ∀ i, i < l.length → ∀ n, bF (l.getD i z53) ≤ n → n < bT (l.getD i z53) → hold l n = bC (l.getD i z53) := by
  induction l with
  | nil => intro p _ i hi; simp at hi
  | cons b l ih =>
    intro p h i hi n h1 h2
    have hb := validFrom_cons h
    cases i with
    | zero => rw [hold_c]; exact if_pos ⟨h1, h2⟩
    | succ i =>
      have hi' : i < l.length := by simpa using hi
      have hr : l.getD i z53 ∈ l := by rw [List.getD_eq_getElem?_getD, List.getElem?_eq_getElem hi']; exact List.getElem_mem hi'
      have hlow := (change_at l b hb.2 _ hr).2.2
      have e : (b :: l).getD (i + 1) z53 = l.getD i z53 := rfl
      rw [e] at h1 h2 ⊢
      rw [hold_c, if_neg (by omega)]
      exact ih b hb.2 i hi' n h1 h2
theorem give_same {a : List S53} {E : List Int} (ha : validP a = true) (hE : Cut a E) (hlen : E.length ≤ 40) {i : Nat} (hi : i < a.length) {f t : Int} (h1 : bF (a.getD i z53) ≤ f) (h2 : f < t) (h3 : t ≤ bT (a.getD i z53)) : giveP a f t (bC (a.getD i z53)) = (a, 0) := by
  have hb := getD_bounds ha i hi
  have hin := hold_in a b00 (validP_from ha) i hi
  generalize a.getD i z53 = r at *
  have hr : rangeB f t = true := by simp only [rangeB, Bool.and_eq_true, decide_eq_true_eq]; omega
  have hc : carrB (bC r) = true := by simp only [carrB, Bool.and_eq_true, decide_eq_true_eq]; omega
  have hone := one_valid hr hc
  have key : ∀ n, overP (hold a n) (hold [⟨⟨f, t⟩, bC r⟩] n) = hold a n := by
    intro n
    rw [hold_one]
    unfold overP
    by_cases hn : f ≤ n ∧ n < t
    · rw [if_pos hn, if_neg (by omega)]
      exact (hin n (by omega) (by omega)).symm
    · rw [if_neg hn, if_pos rfl]
  obtain ⟨out, g1, g2, g3, _⟩ := op_specG overP over_ok rfl a [⟨⟨f, t⟩, bC r⟩] (validP_from ha) hone E (fun n hne => hE n (by rw [key, key] at hne; exact hne)) hlen
  have e : out = a := valid_ext out b00 b00 a (validP_from g2) (validP_from ha) (fun n => by rw [g3 n, key n])
  subst e
  rw [giveP, ha, hr, hc]
  exact g1
theorem differ_self {a : List S53} (ha : validP a = true) : differP a a = ([], 0) := by
  obtain ⟨D, d1, d2, _, d4⟩ := differ_spec ha ha
  have e : D = [] := valid_ext D b00 b00 [] d2 rfl (fun n => by rw [d4 n, if_pos rfl]; rfl)
  subst e
  exact d1
theorem differ_none {a b D : List S53} (ha : validP a = true) (hb : validP b = true) (hv : validFrom b00 D = true) (hD : ∀ n, hold D n = if hold a n = hold b n then -1 else 0) : decide (D.length = 0) = sameP a b := by
  cases hs : sameP a b with
  | true =>
    have e := (sameP_iff a b).1 hs
    subst e
    have e : D = [] := valid_ext D b00 b00 [] hv rfl (fun n => by rw [hD n, if_pos rfl]; rfl)
    subst e
    rfl
  | false =>
    refine decide_eq_false (fun h0 => ?_)
    have e : D = [] := List.eq_nil_of_length_eq_zero h0
    subst e
    have : sameP a b = true := (sameP_iff a b).2 (valid_ext a b00 b00 b (validP_from ha) (validP_from hb) (fun n => by
      have h := hD n
      by_cases hn : hold a n = hold b n
      · exact hn
      · rw [if_neg hn] at h; exact absurd h (by rw [hold_n]; decide)))
    rw [hs] at this
    exact absurd this (by decide)
/-- The ranges where two maps differ, one after the other. -/
theorem diff_bounds {D : List S53} (hv : validFrom b00 D = true) (h0 : ∀ c ∈ D, bC c = 0) (i : Nat) (hi : i < D.length) :
    0 ≤ bF (D.getD i z53) ∧ bF (D.getD i z53) < bT (D.getD i z53) ∧ bT (D.getD i z53) ≤ 100000000 ∧ (0 < i → bT (D.getD (i - 1) z53) < bF (D.getD i z53)) := by
  have hm : ∀ j, j < D.length → D.getD j z53 ∈ D := fun j hj => by rw [List.getD_eq_getElem?_getD, List.getElem?_eq_getElem hj]; exact List.getElem_mem hj
  obtain ⟨b1, b2, b3⟩ := valid_mem_bounds D b00 hv (by decide) _ (hm i hi)
  refine ⟨b1, b2, b3, fun hp => ?_⟩
  obtain ⟨k, rfl⟩ : ∃ k, i = k + 1 := ⟨i - 1, by omega⟩
  obtain ⟨p1, p2⟩ := pair_bounds D b00 hv k hi
  have z1 := h0 _ (hm (k + 1) hi)
  have z2 := h0 _ (hm k (by omega))
  show bT (D.getD k z53) < bF (D.getD (k + 1) z53)
  have : bF (D.getD (k + 1) z53) ≠ bT (D.getD k z53) := fun e => p2 ⟨e, by rw [z1, z2]⟩
  omega
end Go.Proofs.Ytdflgjgoikofaaa.Pl

set_option linter.unusedVariables false
namespace Go.Proofs.Ytdflgjgoikofaaa.Bk
open Go.RowKit Go.Shelf Go.Proofs.YtdflgjgoikofaaaW.PrintWords Go.Proofs.YtdflgjgoikofaaaW.PrintLast Go.Proofs.YtdflgjgoikofaaaW.PrintMore
open Go.Proofs.Ytdflgjgoikofaaa.Ref Go.Proofs.Ytdflgjgoikofaaa.Pl Go.Proofs.Ytdflgjgoikofaaa.Rg
attribute [local go_sem high] run_min_min run_max_max

/-- Where two maps differ, in both directions. -/
theorem differ_pack {a b : List S53} {E F : List Int} (ha : validP a = true) (hb : validP b = true) (hE : Cut a E) (hF : Cut b F) (hlen : (E ++ F).length ≤ 40) :
    ∃ D : List S53, differP a b = (D.map (·.f0), 0) ∧ differP b a = (D.map (·.f0), 0) ∧ validFrom b00 D = true ∧ (∀ c ∈ D, bC c = 0) ∧ (∀ n, hold D n = if hold a n = hold b n then -1 else 0) ∧ D.length ≤ 40 := by
  obtain ⟨D, d1, d2, d3, d4⟩ := differ_spec ha hb
  obtain ⟨D', e1, e2, e3, e4⟩ := differ_spec hb ha
  have hDD : D' = D := valid_ext D' b00 b00 D e2 d2 (fun n => by rw [e4 n, d4 n]; by_cases h : hold a n = hold b n
                                                                 · rw [if_pos h, if_pos h.symm]
                                                                 · rw [if_neg h, if_neg (fun e => h e.symm)])
  subst hDD
  refine ⟨D', d1, e1, d2, d3, d4, ?_⟩
  have hcut : Cut D' (E ++ F) := by
    intro n hne
    by_cases h1 : hold a n = hold a (n - 1)
    · by_cases h2 : hold b n = hold b (n - 1)
      · rw [d4, d4, h1, h2] at hne; exact absurd rfl hne
      · exact List.mem_append.2 (.inr (hF n h2))
    · exact List.mem_append.2 (.inl (hE n h1))
  have := cut_len d2 hcut
  omega
theorem differs_at {a b D : List S53} (hv : validFrom b00 D = true) (hD : ∀ n, hold D n = if hold a n = hold b n then -1 else 0) (n : Int) : differsP (D.map (·.f0)) n = decide (hold a n ≠ hold b n) := by
  rw [differs_hold D b00 hv n, hD n]
  by_cases h : hold a n = hold b n
  · rw [if_pos h, decide_eq_false (by decide), decide_eq_false (fun h2 => h2 h)]
  · rw [if_neg h, decide_eq_true (by decide), decide_eq_true h]
theorem getD_map26 (D : List S53) (i : Nat) : (D.map (·.f0)).getD i z26 = (D.getD i z53).f0 := by
  simp only [List.getD_eq_getElem?_getD, List.getElem?_map]
  cases D[i]? <;> rfl
theorem Rw.idx3 {w : World} {g : Nat} {k0 k1 k2 : Int} (h : w.heap[g]? = some (.cells #[.int .i64 k0, .int .i64 k1, .int .i64 k2] 3 (0, 0))) (i : Nat) (hi : i < 3) : w.cell? ⟨g, i, none⟩ = some (.int .i64 (if i = 0 then k0 else if i = 1 then k1 else k2)) := by
  match i, hi with
  | 0, _ => exact (blk_cell h 0).trans rfl
  | 1, _ => exact (blk_cell h 1).trans rfl
  | 2, _ => exact (blk_cell h 2).trans rfl

set_option maxHeartbeats 8000000 in
set_option maxRecDepth 100000 in
theorem blockDiffers_calls (xs ys zs : List (Int × Int × Int)) (A B C : Option Addr) (ca cb cc : Nat) (wh n : Int) (w : World) (hx : Trip w A xs) (hy : Trip w B ys) (hz : Trip w C zs) (hca : xs.length ≤ ca) (hcb : ys.length ≤ cb) (hcc : zs.length ≤ cc)
    (h0 : I64 wh) (h1 : I64 n) :
    Calls Try.prog 9 #[.slice A xs.length ca, .slice B ys.length cb, .slice C zs.length cc, .int .i64 wh, .int .i64 n] w fun e w' => e = .returned (.bool true) ∧ Below w.heap.size w w' := by
  have HX := Aside0.mk hx
  have HY := Aside0.mk hy
  have HZ := Aside0.mk hz
  have CX := Aside0.mk hca
  have CY := Aside0.mk hcb
  have CZ := Aside0.mk hcc
  have HWH := Aside0.mk h0
  have HNN := Aside0.mk h1
  have HB := Aside0.mk (Below.refl w.heap.size w)
  obtain ⟨kx, hkx⟩ : ∃ k : Nat, k = min xs.length 8 := ⟨_, rfl⟩
  obtain ⟨ky, hky⟩ : ∃ k : Nat, k = min ys.length 8 := ⟨_, rfl⟩
  obtain ⟨kz, hkz⟩ : ∃ k : Nat, k = min zs.length 8 := ⟨_, rfl⟩
  have mx1 : min (xs.length : Int) 8 = (kx : Int) := by omega
  have mx2 := eq_true (show (0 : Int) ≤ (kx : Int) by omega)
  have mx3 := eq_true (show (kx : Int) ≤ (ca : Int) by omega)
  have my1 : min (ys.length : Int) 8 = (ky : Int) := by omega
  have my2 := eq_true (show (0 : Int) ≤ (ky : Int) by omega)
  have my3 := eq_true (show (ky : Int) ≤ (cb : Int) by omega)
  have mz1 : min (zs.length : Int) 8 = (kz : Int) := by omega
  have mz2 := eq_true (show (0 : Int) ≤ (kz : Int) by omega)
  have mz3 := eq_true (show (kz : Int) ≤ (cc : Int) by omega)
  have KX := Aside0.mk hkx
  have KY := Aside0.mk hky
  have KZ := Aside0.mk hkz
  clear hx hy hz hca hcb hcc h0 h1 hkx hky hkz
  obtain ⟨EA, ea_, va_, ca_⟩ := made_spec (xs.take 8) 8 (by rw [List.length_take]; omega) (by omega)
  obtain ⟨EB, eb_, vb_, cb_⟩ := made_spec (ys.take 8) 8 (by rw [List.length_take]; omega) (by omega)
  obtain ⟨EC, ec_, vc_, cc_⟩ := made_spec (zs.take 8) 8 (by rw [List.length_take]; omega) (by omega)
  have MX := fun w' (h : Trip w' A xs) => madeTV h ca CX.out 8 kx (by omega) KX.out
  have MY := fun w' (h : Trip w' B ys) => madeTV h cb CY.out 8 ky (by omega) KY.out
  have MZ := fun w' (h : Trip w' C zs) => madeTV h cc CZ.out 8 kz (by omega) KZ.out
  generalize madeP (xs.take 8) = a at *
  generalize madeP (ys.take 8) = b at *
  generalize madeP (zs.take 8) = c at *
  have VA := Aside0.mk va_
  have VB := Aside0.mk vb_
  have VC := Aside0.mk vc_
  have hEF : (EA ++ EB).length ≤ 40 := by simp only [List.length_append]; omega
  have STEP := Aside0.mk (fun D hv h0 hD => step_made (a := a) (b := b) (D := D) ca_ cb_ hEF vb_ hv h0 hD)
  obtain ⟨D, d1, d2, d3, d4, d5, d6⟩ := differ_pack va_ vb_ ca_ cb_ hEF
  obtain ⟨D2, e1, _, e3, _, e5, e6⟩ := differ_pack vb_ vc_ cb_ cc_ (by simp only [List.length_append]; omega)
  obtain ⟨D3, f1, _, f3, _, f5, f6⟩ := differ_pack va_ vc_ ca_ cc_ (by simp only [List.length_append]; omega)
  have DAB := Aside0.mk d1
  have DBA := Aside0.mk d2
  have DBC := Aside0.mk e1
  have DAC := Aside0.mk f1
  have HD := Aside0.mk (And.intro d3 (And.intro d4 d5))
  have TRI := Aside0.mk (show ∀ k, differsP (D3.map (·.f0)) k = true → differsP (D.map (·.f0)) k = false → differsP (D2.map (·.f0)) k = true by
    intro k
    rw [differs_at f3 f5, differs_at d3 d5, differs_at e3 e5]
    simp only [decide_eq_true_eq, decide_eq_false_iff_not]
    intro h1 h2 h3
    exact h1 ((Classical.not_not.1 h2).trans h3))
  have DL := Aside0.mk d6
  have DL2 := Aside0.mk e6
  have DL3 := Aside0.mk f6
  have MXA := Aside0.mk MX
  have MYA := Aside0.mk MY
  have MZA := Aside0.mk MZ
  have PKA := Aside0.mk (fun w' => pickV n 100000000 w' HNN.out (by omega))
  generalize pickP n 100000000 = k2 at *
  clear ea_ va_ ca_ eb_ vb_ cb_ ec_ vc_ cc_ MX MY MZ hEF d1 d2 d3 d4 d5 d6 e1 e3 e5 e6 f1 f3 f5 f6
  go_enter Try.func9, Try.ntmps9
  go_wp2_with fail
  refine (sane_calls _).mono ?_
  rintro e w1_ ⟨rfl, h1_⟩
  replace HX := Aside0.mk ((HX.out).below h1_)
  replace HY := Aside0.mk ((HY.out).below h1_)
  replace HZ := Aside0.mk ((HZ.out).below h1_)
  replace HB := Aside0.mk (below_step HB.out h1_)
  clear h1_
  go_wp2_with fail
  refine (MXA.out _ HX.out).mono ?_
  rintro e w2_ ⟨v2_, rfl, r2_, h2_⟩
  replace HX := Aside0.mk ((HX.out).below h2_)
  replace HY := Aside0.mk ((HY.out).below h2_)
  replace HZ := Aside0.mk ((HZ.out).below h2_)
  replace HB := Aside0.mk (below_step HB.out h2_)
  clear h2_
  have RA := Aside0.mk r2_
  clear r2_
  clear HX
  go_wp2_with fail
  refine (MYA.out _ HY.out).mono ?_
  rintro e w3_ ⟨v3_, rfl, r3_, h3_⟩
  replace HY := Aside0.mk ((HY.out).below h3_)
  replace HZ := Aside0.mk ((HZ.out).below h3_)
  replace RA := Aside0.mk ((RA.out).below h3_)
  replace HB := Aside0.mk (below_step HB.out h3_)
  clear h3_
  have RB := Aside0.mk r3_
  clear r3_
  clear HY
  go_wp2_with fail
  refine (MZA.out _ HZ.out).mono ?_
  rintro e w4_ ⟨v4_, rfl, r4_, h4_⟩
  replace HZ := Aside0.mk ((HZ.out).below h4_)
  replace RA := Aside0.mk ((RA.out).below h4_)
  replace RB := Aside0.mk ((RB.out).below h4_)
  replace HB := Aside0.mk (below_step HB.out h4_)
  clear h4_
  have RC := Aside0.mk r4_
  clear r4_
  clear HZ
  go_wp2_with fail
  refine (differV RA.out RB.out _ 0 DAB.out).mono ?_
  rintro e w5_ ⟨v5_, rfl, r5_, h5_⟩
  replace RA := Aside0.mk ((RA.out).below h5_)
  replace RB := Aside0.mk ((RB.out).below h5_)
  replace RC := Aside0.mk ((RC.out).below h5_)
  replace HB := Aside0.mk (below_step HB.out h5_)
  clear h5_
  have RAB := Aside0.mk r5_
  clear r5_
  go_wp2_with fail
  refine (differV RB.out RA.out _ 0 DBA.out).mono ?_
  rintro e w6_ ⟨v6_, rfl, r6_, h6_⟩
  replace RA := Aside0.mk ((RA.out).below h6_)
  replace RB := Aside0.mk ((RB.out).below h6_)
  replace RC := Aside0.mk ((RC.out).below h6_)
  replace RAB := Aside0.mk ((RAB.out).below h6_)
  replace HB := Aside0.mk (below_step HB.out h6_)
  clear h6_
  have RBA := Aside0.mk r6_
  clear r6_
  go_wp2_with fail
  refine (differV RB.out RC.out _ 0 DBC.out).mono ?_
  rintro e w7_ ⟨v7_, rfl, r7_, h7_⟩
  replace RA := Aside0.mk ((RA.out).below h7_)
  replace RB := Aside0.mk ((RB.out).below h7_)
  replace RC := Aside0.mk ((RC.out).below h7_)
  replace RAB := Aside0.mk ((RAB.out).below h7_)
  replace RBA := Aside0.mk ((RBA.out).below h7_)
  replace HB := Aside0.mk (below_step HB.out h7_)
  clear h7_
  have RBC := Aside0.mk r7_
  clear r7_
  go_wp2_with fail
  refine (differV RA.out RC.out _ 0 DAC.out).mono ?_
  rintro e w8_ ⟨v8_, rfl, r8_, h8_⟩
  replace RA := Aside0.mk ((RA.out).below h8_)
  replace RB := Aside0.mk ((RB.out).below h8_)
  replace RC := Aside0.mk ((RC.out).below h8_)
  replace RAB := Aside0.mk ((RAB.out).below h8_)
  replace RBA := Aside0.mk ((RBA.out).below h8_)
  replace RBC := Aside0.mk ((RBC.out).below h8_)
  replace HB := Aside0.mk (below_step HB.out h8_)
  clear h8_
  have RAC := Aside0.mk r8_
  clear r8_
  go_wp2_with fail
  refine (same2V RAB.out RBA.out (by rw [List.length_map]; have := DL.out; omega) true ((sameRP_iff _ _).2 rfl)).mono ?_
  rintro e w9_ ⟨rfl, h9_⟩
  replace RA := Aside0.mk ((RA.out).below h9_)
  replace RB := Aside0.mk ((RB.out).below h9_)
  replace RC := Aside0.mk ((RC.out).below h9_)
  replace RAB := Aside0.mk ((RAB.out).below h9_)
  replace RBA := Aside0.mk ((RBA.out).below h9_)
  replace RBC := Aside0.mk ((RBC.out).below h9_)
  replace RAC := Aside0.mk ((RAC.out).below h9_)
  replace HB := Aside0.mk (below_step HB.out h9_)
  clear h9_
  go_wp2_with fail
  refine (nearV RA.out VA.out wh n HWH.out HNN.out).mono ?_
  rintro e w10_ ⟨rfl, h10_⟩
  replace RA := Aside0.mk ((RA.out).below h10_)
  replace RB := Aside0.mk ((RB.out).below h10_)
  replace RC := Aside0.mk ((RC.out).below h10_)
  replace RAB := Aside0.mk ((RAB.out).below h10_)
  replace RBA := Aside0.mk ((RBA.out).below h10_)
  replace RBC := Aside0.mk ((RBC.out).below h10_)
  replace RAC := Aside0.mk ((RAC.out).below h10_)
  replace HB := Aside0.mk (below_step HB.out h10_)
  clear h10_
  go_wp2_with fail
  refine (nearV RC.out VC.out wh n HWH.out HNN.out).mono ?_
  rintro e w11_ ⟨rfl, h11_⟩
  replace RA := Aside0.mk ((RA.out).below h11_)
  replace RB := Aside0.mk ((RB.out).below h11_)
  replace RC := Aside0.mk ((RC.out).below h11_)
  replace RAB := Aside0.mk ((RAB.out).below h11_)
  replace RBA := Aside0.mk ((RBA.out).below h11_)
  replace RBC := Aside0.mk ((RBC.out).below h11_)
  replace RAC := Aside0.mk ((RAC.out).below h11_)
  replace HB := Aside0.mk (below_step HB.out h11_)
  clear h11_
  go_wp2_with fail
  refine (PKA.out _).mono ?_
  rintro e w12_ ⟨rfl, h12_⟩
  replace RA := Aside0.mk ((RA.out).below h12_)
  replace RB := Aside0.mk ((RB.out).below h12_)
  replace RC := Aside0.mk ((RC.out).below h12_)
  replace RAB := Aside0.mk ((RAB.out).below h12_)
  replace RBA := Aside0.mk ((RBA.out).below h12_)
  replace RBC := Aside0.mk ((RBC.out).below h12_)
  replace RAC := Aside0.mk ((RAC.out).below h12_)
  replace HB := Aside0.mk (below_step HB.out h12_)
  clear h12_
  obtain ⟨Ad, cd, hvd, hcd, hCd⟩ := RAB.out
  rw [List.length_map] at hvd hcd hCd
  subst hvd
  have RAD := Aside0.mk hCd
  clear hcd hCd
  generalize nearP a wh n = k0
  generalize nearP c wh n = k1
  go_wp2_with fail
  have hal_ := (Below.refl _ w12_).alloc (Nat.le_refl _) (.cells #[.int .i64 k0, .int .i64 k1, .int .i64 k2] 3)
  replace RA := Aside0.mk ((RA.out).below hal_)
  replace RB := Aside0.mk ((RB.out).below hal_)
  replace RC := Aside0.mk ((RC.out).below hal_)
  replace RAB := Aside0.mk ((RAB.out).below hal_)
  replace RBA := Aside0.mk ((RBA.out).below hal_)
  replace RBC := Aside0.mk ((RBC.out).below hal_)
  replace RAC := Aside0.mk ((RAC.out).below hal_)
  replace RAD := Aside0.mk (Kd.C_below (RAD.out) hal_)
  replace HB := Aside0.mk (below_step HB.out hal_)
  clear hal_
  have HS := Aside0.mk (blk_new w12_ (.cells #[.int .i64 k0, .int .i64 k1, .int .i64 k2] 3))
  generalize w12_.alloc (.cells #[.int .i64 k0, .int .i64 k1, .int .i64 k2] 3) = wl at *
  go_loopg [24, 110] 3 (fun kq v24 v110 wr => ∃ (i : Nat), v110 = .int .i64 (i : Int) ∧ Aside0 (i + kq = 3) ∧ Aside0 (Below wl.heap.size wl wr))
  case atStart => exact ⟨0, rfl, ⟨by omega⟩, ⟨Below.refl _ _⟩⟩
  case round =>
    obtain ⟨i, rfl, HK, HBr⟩ := hrel
    by_cases hi : i < 3
    · have hib : decide ((i : Int) < 3) = true := decide_eq_true (by omega)
      have q1 := eq_true (show (i : Int) < 3 by omega)
      have q2 := eq_true (show (0 : Int) ≤ (i : Int) by omega)
      have c0 : wr.cell? ⟨w12_.heap.size, i, none⟩ = _ := Rw.idx3 (blk_below HS.out HBr.out) i hi
      have HI := Aside0.mk hi
      have i9 : i ≤ 1000 := by omega
      generalize (if i = 0 then k0 else if i = 1 then k1 else k2) = k at c0
      have t3 := TRI.out k
      generalize e3 : differsP (D3.map (·.f0)) k = x3 at t3
      generalize e1 : differsP (D.map (·.f0)) k = x1 at t3
      generalize e2 : differsP (D2.map (·.f0)) k = x2 at t3
      have E3 := Aside0.mk e3
      have E1 := Aside0.mk e1
      have E2 := Aside0.mk e2
      have T3 := Aside0.mk t3
      clear hi e1 e2 e3 t3
      go_wp2_with fail
      refine (differsV (RAC.out.below HBr.out) (by rw [List.length_map]; have := DL3.out; omega) k x3 E3.out).mono ?_
      rintro e y1 ⟨rfl, h1⟩
      replace HBr := Aside0.mk (below_step HBr.out h1)
      clear h1
      cases x3 with
      | false =>
        go_wp2_with fail
        go_roundg (3 - (i + 1))
        case measure => have := HK.out; have := HI.out; omega
        case rel => exact ⟨i + 1, by go_num, ⟨by have := HK.out; have := HI.out; omega⟩, HBr⟩
      | true =>
        go_wp2_with fail
        refine (differsV (RAB.out.below HBr.out) (by rw [List.length_map]; have := DL.out; omega) k x1 E1.out).mono ?_
        rintro e y2 ⟨rfl, h2⟩
        replace HBr := Aside0.mk (below_step HBr.out h2)
        clear h2
        cases x1 with
        | true =>
          go_wp2_with fail
          go_roundg (3 - (i + 1))
          case measure => have := HK.out; have := HI.out; omega
          case rel => exact ⟨i + 1, by go_num, ⟨by have := HK.out; have := HI.out; omega⟩, HBr⟩
        | false =>
          have X2 := Aside0.mk (show differsP (D2.map (·.f0)) k = true from E2.out.trans (by simpa using T3.out))
          go_wp2_with fail
          refine (differsV (RBC.out.below HBr.out) (by rw [List.length_map]; have := DL2.out; omega) k true X2.out).mono ?_
          rintro e y3 ⟨rfl, h3⟩
          replace HBr := Aside0.mk (below_step HBr.out h3)
          clear h3
          go_wp2_with fail
          go_roundg (3 - (i + 1))
          case measure => have := HK.out; have := HI.out; omega
          case rel => exact ⟨i + 1, by go_num, ⟨by have := HK.out; have := HI.out; omega⟩, HBr⟩
    · have hib : decide ((i : Int) < 3) = false := decide_eq_false (by omega)
      have q1 := eq_false (show ¬ (i : Int) < 3 by omega)
      clear hi
      go_wp2_with fail
      go_loopg [25, 26] D.length (fun kq v25 v26 wr => ∃ (i : Nat) (nw : List S53), v26 = .int .i64 (i : Int) ∧ Aside0 (i + kq = D.length) ∧ Aside0 (Rw wr nw v25) ∧ Aside0 (validP nw = true) ∧ Aside0 (∀ n, hold nw n = mix a b (D.take i) n) ∧ Aside0 (Below wl.heap.size wl wr))
      case atStart => exact ⟨0, a, rfl, ⟨by omega⟩, ⟨RA.out.below HBr.out⟩, VA, ⟨fun n => rfl⟩, HBr⟩
      case round =>
        obtain ⟨i, nw, rfl, HK, RN, VN, HN, HB2⟩ := hrel
        by_cases hi : i < D.length
        · have hib : decide ((i : Int) < (D.length : Int)) = true := decide_eq_true (by omega)
          have q1 := eq_true (show (i : Int) < (D.length : Int) by omega)
          have q2 := eq_true (show (0 : Int) ≤ (i : Int) by omega)
          have i9 : i ≤ 1000000 := by have := DL.out; omega
          obtain ⟨ad, hAd, c0, c1⟩ := at_T26 (Kd.C_below RAD.out HB2.out) (i : Int) (by omega) (by omega)
          subst hAd
          simp only [Int.toNat_natCast, rd_T26, getD_map26] at c0 c1
          obtain ⟨ls, pt, nx, s1, s2, s3, s4, s5⟩ := STEP.out D HD.out.1 HD.out.2.1 HD.out.2.2 i hi VN.out HN.out
          generalize D.getD i z53 = r at c0 c1 s1 s2
          have C0 := Aside0.mk c0
          have C1 := Aside0.mk c1
          have S1 := Aside0.mk s1
          have S2 := Aside0.mk s2
          have S3 := Aside0.mk s3
          have S4 := Aside0.mk s4
          have S5 := Aside0.mk s5
          have HI := Aside0.mk hi
          clear hi s1 s2 s3 s4 s5
          go_wp2_with fail
          refine (takeV RN.out r.f0.f0 r.f0.f1 ls 0 S1.out).mono ?_
          rintro e y1 ⟨u1, rfl, R1, h1⟩
          replace HB2 := Aside0.mk (below_step HB2.out h1)
          have d0 := pw_cell_below h1 C0.out
          have d1 := pw_cell_below h1 C1.out
          have RL := Aside0.mk R1
          clear h1 R1 c0 c1
          go_wp2_with fail
          refine (onlyV (RB.out.below HB2.out) r.f0.f0 r.f0.f1 pt 0 S2.out).mono ?_
          rintro e y2 ⟨u2, rfl, R2, h2⟩
          replace HB2 := Aside0.mk (below_step HB2.out h2)
          replace RL := Aside0.mk (RL.out.below h2)
          have RP := Aside0.mk R2
          clear h2 R2 d0 d1
          go_wp2_with fail
          refine (overlayV RL.out RP.out nx 0 S3.out).mono ?_
          rintro e y3 ⟨u3, rfl, R3, h3⟩
          replace HB2 := Aside0.mk (below_step HB2.out h3)
          have RX := Aside0.mk R3
          clear h3 R3
          go_wp2_with fail
          go_roundg (D.length - (i + 1))
          case measure => have := HK.out; have := HI.out; omega
          case rel => exact ⟨i + 1, nx, by go_num, ⟨by have := HK.out; have := HI.out; omega⟩, RX, S4, S5, HB2⟩
        · have hib : decide ((i : Int) < (D.length : Int)) = false := decide_eq_false (by omega)
          have q1 := eq_false (show ¬ (i : Int) < (D.length : Int) by omega)
          have hfin : ∀ n, hold nw n = hold b n := by
            intro n
            have hz := HD.out.2.2 n
            rw [HN.out n, List.take_of_length_le (by omega)]
            unfold mix
            by_cases he : hold a n = hold b n
            · rw [if_pos he] at hz; rw [if_pos hz]; exact he
            · rw [if_neg he] at hz; rw [if_neg (by rw [hz]; decide)]
          have HF := Aside0.mk hfin
          clear hi hfin
          go_wp2_with fail
          refine (sameV RN.out (RB.out.below HB2.out) (valid1000 VN.out) true (valid_eq VN.out VB.out HF.out)).mono ?_
          rintro e y1 ⟨rfl, h1⟩
          replace HB2 := Aside0.mk (below_step HB2.out h1)
          clear h1
          go_wp2_with fail
          go_ret
          exact ⟨rfl, below_step HB.out HB2.out⟩
end Go.Proofs.Ytdflgjgoikofaaa.Bk

set_option linter.unusedVariables false
namespace Go.Proofs.Ytdflgjgoikofaaa.Bk
open Go.RowKit Go.Shelf Go.Proofs.YtdflgjgoikofaaaW.PrintWords Go.Proofs.YtdflgjgoikofaaaW.PrintLast Go.Proofs.YtdflgjgoikofaaaW.PrintMore
open Go.Proofs.Ytdflgjgoikofaaa.Ref Go.Proofs.Ytdflgjgoikofaaa.Pl Go.Proofs.Ytdflgjgoikofaaa.Rg
attribute [local go_sem high] run_min_min run_max_max

theorem pickV' (c n k : Int) (hc : I64 c) (hn : 0 < n) (hk : pickP c n = k) (w : World) : Calls Try.prog 17 #[.int .i64 c, .int .i64 n] w fun e w' => e = .returned (.int .i64 k) ∧ Below w.heap.size w w' := by
  rw [← hk]
  exact pickV c n w hc hn

set_option maxHeartbeats 8000000 in
set_option maxRecDepth 100000 in
theorem blockCanonical_calls (xs ys : List (Int × Int × Int)) (A B : Option Addr) (ca cb : Nat) (wh n : Int) (w : World) (hx : Trip w A xs) (hy : Trip w B ys) (hca : xs.length ≤ ca) (hcb : ys.length ≤ cb) (hl1 : xs.length ≤ 9223372036854775807) (hl2 : ys.length ≤ 9223372036854775807)
    (h0 : I64 wh) (h1 : I64 n) :
    Calls Try.prog 5 #[.slice A xs.length ca, .slice B ys.length cb, .int .i64 wh, .int .i64 n] w fun e w' => e = .returned (.bool true) ∧ Below w.heap.size w w' := by
  have HX := Aside0.mk hx
  have HY := Aside0.mk hy
  have HB := Aside0.mk (Below.refl w.heap.size w)
  have MXA := Aside0.mk (fun w' (h : Trip w' A xs) => madeV xs A ca w' h hca hl1)
  have MYA := Aside0.mk (fun w' (h : Trip w' B ys) => madeV ys B cb w' h hcb hl2)
  obtain ⟨EA, ea_, va_, ca_⟩ := made_spec12 xs
  obtain ⟨EB, eb_, vb_, cb_⟩ := made_spec12 ys
  have HWH := Aside0.mk h0
  have HNN := Aside0.mk h1
  clear hx hy hca hcb hl1 hl2 h0 h1
  generalize madeP xs = a at *
  generalize madeP ys = b at *
  have VA := Aside0.mk va_
  have VB := Aside0.mk vb_
  have GS := Aside0.mk (fun i (hi : i < a.length) f t h1 h2 h3 => give_same (a := a) va_ ca_ (by omega) (i := i) hi (f := f) (t := t) h1 h2 h3)
  obtain ⟨D, d1, d2, d3, d4⟩ := differ_spec va_ vb_
  have dl : D.length ≤ 1000 := by
    have hcut : Cut D (EA ++ EB) := by
      intro n hne
      by_cases h1 : hold a n = hold a (n - 1)
      · by_cases h2 : hold b n = hold b (n - 1)
        · rw [d4, d4, h1, h2] at hne; exact absurd rfl hne
        · exact List.mem_append.2 (.inr (cb_ n h2))
      · exact List.mem_append.2 (.inl (ca_ n h1))
    have := cut_len d2 hcut
    rw [List.length_append] at this
    omega
  have DAB := Aside0.mk d1
  have NONE := Aside0.mk (differ_none va_ vb_ d2 d4)
  have DAT := Aside0.mk (differs_at d2 d4)
  have DBD := Aside0.mk (fun i hi => diff_bounds d2 d3 i hi)
  have DAA := Aside0.mk (differ_self va_)
  have GB := Aside0.mk (fun i hi => getD_bounds (l := a) va_ i hi)
  have al_ := valid1000 va_
  have PKA := Aside0.mk (fun w' => pickV n 100000000 w' HNN.out (by omega))
  generalize pickP n 100000000 = k2 at *
  clear ea_ va_ ca_ eb_ vb_ cb_ d1 d2 d3 d4
  obtain ⟨sb, hsb⟩ : ∃ s, sameP a b = s := ⟨_, rfl⟩
  have hn0 : decide (D.length = 0) = sb := NONE.out.trans hsb
  have HSB := Aside0.mk hsb
  have e0 : ((D.length : Int) == 0) = sb := by
    rw [← hn0]
    by_cases h : D.length = 0
    · rw [decide_eq_true h]; exact beq_iff_eq.mpr (by omega)
    · rw [decide_eq_false h]; exact beq_eq_false_iff_ne.mpr (by omega)
  have e9 : (sb != sb) = false := by cases sb <;> rfl
  have e8 : (sb == sb) = true := by cases sb <;> rfl
  clear hsb hn0 NONE
  go_enter Try.func5, Try.ntmps5
  go_wp2_with fail
  refine (sane_calls _).mono ?_
  rintro e w1_ ⟨rfl, h1_⟩
  replace HX := Aside0.mk ((HX.out).below h1_)
  replace HY := Aside0.mk ((HY.out).below h1_)
  replace HB := Aside0.mk (below_step HB.out h1_)
  clear h1_
  go_wp2_with fail
  refine (MXA.out _ HX.out).mono ?_
  rintro e w2_ ⟨v2_, rfl, r2_, h2_⟩
  replace HX := Aside0.mk ((HX.out).below h2_)
  replace HY := Aside0.mk ((HY.out).below h2_)
  replace HB := Aside0.mk (below_step HB.out h2_)
  clear h2_
  have RA := Aside0.mk r2_
  clear r2_
  clear HX
  go_wp2_with fail
  refine (MYA.out _ HY.out).mono ?_
  rintro e w3_ ⟨v3_, rfl, r3_, h3_⟩
  replace HY := Aside0.mk ((HY.out).below h3_)
  replace RA := Aside0.mk ((RA.out).below h3_)
  replace HB := Aside0.mk (below_step HB.out h3_)
  clear h3_
  have RB := Aside0.mk r3_
  clear r3_
  clear HY
  obtain ⟨Aa, caa, hva, hca, hCa⟩ := RA.out
  subst hva
  have RAC := Aside0.mk hCa
  clear hca hCa
  go_wp2_with fail
  refine (differV RA.out RB.out _ 0 DAB.out).mono ?_
  rintro e w4_ ⟨v4_, rfl, r4_, h4_⟩
  replace RA := Aside0.mk ((RA.out).below h4_)
  replace RB := Aside0.mk ((RB.out).below h4_)
  replace RAC := Aside0.mk (Kd.C_below (RAC.out) h4_)
  replace HB := Aside0.mk (below_step HB.out h4_)
  clear h4_
  have RD := Aside0.mk r4_
  clear r4_
  obtain ⟨Ad, cd, hvd, hcd, hCd⟩ := RD.out
  rw [List.length_map] at hvd hcd hCd
  subst hvd
  have RAD := Aside0.mk hCd
  clear hcd hCd
  go_wp2_with fail
  refine (sameV RA.out RB.out (valid1000 VA.out) sb HSB.out).mono ?_
  rintro e w5_ ⟨rfl, h5_⟩
  replace RA := Aside0.mk ((RA.out).below h5_)
  replace RB := Aside0.mk ((RB.out).below h5_)
  replace RAC := Aside0.mk (Kd.C_below (RAC.out) h5_)
  replace RD := Aside0.mk ((RD.out).below h5_)
  replace RAD := Aside0.mk (Kd.C_below (RAD.out) h5_)
  replace HB := Aside0.mk (below_step HB.out h5_)
  clear h5_
  go_wp2_with fail
  clear e0 e9 e8
  go_loopg [14] D.length (fun kq v14 wr => ∃ (i : Nat), v14 = .int .i64 (i : Int) ∧ Aside0 (i + kq = D.length) ∧ Aside0 (Below w5_.heap.size w5_ wr))
  case atStart => exact ⟨0, rfl, ⟨by omega⟩, ⟨Below.refl _ _⟩⟩
  case round =>
    obtain ⟨i, rfl, HK, HBr⟩ := hrel
    by_cases hi : i < D.length
    · have hib : decide ((i : Int) < (D.length : Int)) = true := decide_eq_true (by omega)
      have q1 := eq_true (show (i : Int) < (D.length : Int) by omega)
      have q2 := eq_true (show (0 : Int) ≤ (i : Int) by omega)
      have i9 : i ≤ 1000 := by omega
      obtain ⟨ad, hAd, c0, c1⟩ := at_T26 (Kd.C_below RAD.out HBr.out) (i : Int) (by omega) (by omega)
      subst hAd
      simp only [Int.toNat_natCast, rd_T26, getD_map26] at c0 c1
      obtain ⟨b1, b2, b3, b4⟩ := DBD.out i hi
      have HI := Aside0.mk hi
      by_cases h0 : 0 < i
      · obtain ⟨k, hk⟩ : ∃ k, k = i - 1 := ⟨i - 1, rfl⟩
        obtain ⟨ad', hAd, p0, p1⟩ := at_T26 (Kd.C_below RAD.out HBr.out) (k : Int) (by omega) (by omega)
        obtain rfl : ad = ad' := by injection hAd
        simp only [Int.toNat_natCast, rd_T26, getD_map26] at p0 p1
        have b5 := b4 h0
        rw [← hk] at b5
        generalize D.getD i z53 = r at c0 c1 b1 b2 b3 b5
        generalize D.getD k z53 = s at p0 p1 b5
        simp only [bF, bT] at b1 b2 b3 b5
        have g1 : decide (r.f0.f0 < 0) = false := decide_eq_false (by omega)
        have g2 : decide (r.f0.f1 ≤ r.f0.f0) = false := decide_eq_false (by omega)
        have g3 : decide (100000000 < r.f0.f1) = false := decide_eq_false (by omega)
        have g4 : decide ((0 : Int) < (i : Int)) = true := decide_eq_true (by omega)
        have g6 : decide (0 < i) = true := decide_eq_true h0
        have g5 : decide (r.f0.f0 ≤ s.f0.f1) = false := decide_eq_false (by omega)
        have m1 : IntKind.i64.wrap ((i : Int) - 1) = (k : Int) := by rw [IntWalk.i64_in _ (by omega)]; omega
        have m2 : max (k : Int) 0 = (k : Int) := by omega
        have m3 := eq_true (show (k : Int) < (D.length : Int) by omega)
        have m4 := eq_true (show (0 : Int) ≤ (k : Int) by omega)
        clear hi h0 b1 b2 b3 b4 b5 hAd hk
        go_wp2_with fail
        go_quiet (fail)
        go_wp2_with fail
        go_roundg (D.length - (i + 1))
        case measure => have := HK.out; have := HI.out; omega
        case rel => exact ⟨i + 1, by go_num, ⟨by have := HK.out; have := HI.out; omega⟩, ⟨pw_below_drewN HBr.out _⟩⟩
      · have g4 : decide ((0 : Int) < (i : Int)) = false := decide_eq_false (by omega)
        have g6 : decide (0 < i) = false := decide_eq_false h0
        generalize D.getD i z53 = r at c0 c1 b1 b2 b3
        simp only [bF, bT] at b1 b2 b3
        have g1 : decide (r.f0.f0 < 0) = false := decide_eq_false (by omega)
        have g2 : decide (r.f0.f1 ≤ r.f0.f0) = false := decide_eq_false (by omega)
        have g3 : decide (100000000 < r.f0.f1) = false := decide_eq_false (by omega)
        clear hi h0 b1 b2 b3 b4
        go_wp2_with fail
        go_quiet (fail)
        go_wp2_with fail
        go_roundg (D.length - (i + 1))
        case measure => have := HK.out; have := HI.out; omega
        case rel => exact ⟨i + 1, by go_num, ⟨by have := HK.out; have := HI.out; omega⟩, ⟨pw_below_drewN HBr.out _⟩⟩
    · have hib : decide ((i : Int) < (D.length : Int)) = false := decide_eq_false (by omega)
      have q1 := eq_false (show ¬ (i : Int) < (D.length : Int) by omega)
      have RA' := Aside0.mk (RA.out.below HBr.out)
      have RB' := Aside0.mk (RB.out.below HBr.out)
      have RD' := Aside0.mk (RD.out.below HBr.out)
      have RAC' := Aside0.mk (Kd.C_below RAC.out HBr.out)
      replace HB := Aside0.mk (below_step HB.out HBr.out)
      clear RA RB RD RAC RAD hi HK HBr
      go_wp2_with fail
      refine (nearV RA'.out VA.out wh n HWH.out HNN.out).mono ?_
      rintro e w6_ ⟨rfl, h6_⟩
      replace RA' := Aside0.mk ((RA'.out).below h6_)
      replace RB' := Aside0.mk ((RB'.out).below h6_)
      replace RD' := Aside0.mk ((RD'.out).below h6_)
      replace RAC' := Aside0.mk (Kd.C_below (RAC'.out) h6_)
      replace HB := Aside0.mk (below_step HB.out h6_)
      clear h6_
      go_wp2_with fail
      refine (nearV RB'.out VB.out wh n HWH.out HNN.out).mono ?_
      rintro e w7_ ⟨rfl, h7_⟩
      replace RA' := Aside0.mk ((RA'.out).below h7_)
      replace RB' := Aside0.mk ((RB'.out).below h7_)
      replace RD' := Aside0.mk ((RD'.out).below h7_)
      replace RAC' := Aside0.mk (Kd.C_below (RAC'.out) h7_)
      replace HB := Aside0.mk (below_step HB.out h7_)
      clear h7_
      go_wp2_with fail
      refine (PKA.out _).mono ?_
      rintro e w8_ ⟨rfl, h8_⟩
      replace RA' := Aside0.mk ((RA'.out).below h8_)
      replace RB' := Aside0.mk ((RB'.out).below h8_)
      replace RD' := Aside0.mk ((RD'.out).below h8_)
      replace RAC' := Aside0.mk (Kd.C_below (RAC'.out) h8_)
      replace HB := Aside0.mk (below_step HB.out h8_)
      clear h8_
      generalize nearP a wh n = k0
      generalize nearP b wh n = k1
      go_wp2_with fail
      have hal_ := (Below.refl _ w8_).alloc (Nat.le_refl _) (.cells #[.int .i64 k0, .int .i64 k1, .int .i64 k2] 3)
      replace RA' := Aside0.mk ((RA'.out).below hal_)
      replace RB' := Aside0.mk ((RB'.out).below hal_)
      replace RD' := Aside0.mk ((RD'.out).below hal_)
      replace RAC' := Aside0.mk (Kd.C_below (RAC'.out) hal_)
      replace HB := Aside0.mk (below_step HB.out hal_)
      clear hal_
      have HN := Aside0.mk (blk_new w8_ (.cells #[.int .i64 k0, .int .i64 k1, .int .i64 k2] 3))
      generalize w8_.alloc (.cells #[.int .i64 k0, .int .i64 k1, .int .i64 k2] 3) = wl at *
      go_loopg [16, 111] 3 (fun kq v16 v111 wr => ∃ (i : Nat), v111 = .int .i64 (i : Int) ∧ Aside0 (i + kq = 3) ∧ Aside0 (Below wl.heap.size wl wr))
      case atStart => exact ⟨0, rfl, ⟨by omega⟩, ⟨Below.refl _ _⟩⟩
      case round =>
        obtain ⟨i, rfl, HK, HBr⟩ := hrel
        by_cases hi : i < 3
        · have hib : decide ((i : Int) < 3) = true := decide_eq_true (by omega)
          have q1 := eq_true (show (i : Int) < 3 by omega)
          have q2 := eq_true (show (0 : Int) ≤ (i : Int) by omega)
          have c0 : wr.cell? ⟨w8_.heap.size, i, none⟩ = _ := Rw.idx3 (blk_below HN.out HBr.out) i hi
          have HI := Aside0.mk hi
          have i9 : i ≤ 1000 := by omega
          generalize (if i = 0 then k0 else if i = 1 then k1 else k2) = k at c0
          have t3 := DAT.out k
          generalize hxx : hold a k = x at t3
          generalize hyy : hold b k = y at t3
          have HXX := Aside0.mk hxx
          have HYY := Aside0.mk hyy
          clear hi hxx hyy
          by_cases hxy : x = y
          · have T3 := Aside0.mk (t3.trans (decide_eq_false (by omega)))
            have b1 : (x == y) = true := beq_iff_eq.mpr hxy
            have b2 : (x != y) = false := bne_eq_false_iff_eq.mpr hxy
            clear t3 hxy
            go_wp2_with fail
            refine (differsV (RD'.out.below HBr.out) (by rw [List.length_map]; omega) k false T3.out).mono ?_
            rintro e y1 ⟨rfl, h1⟩
            replace HBr := Aside0.mk (below_step HBr.out h1)
            clear h1
            go_wp2_with fail
            refine (holderV (RA'.out.below HBr.out) k x ((holderL_valid VA.out k).trans HXX.out)).mono ?_
            rintro e y2 ⟨rfl, h1⟩
            replace HBr := Aside0.mk (below_step HBr.out h1)
            clear h1
            go_wp2_with fail
            refine (holderV (RB'.out.below HBr.out) k y ((holderL_valid VB.out k).trans HYY.out)).mono ?_
            rintro e y3 ⟨rfl, h1⟩
            replace HBr := Aside0.mk (below_step HBr.out h1)
            clear h1
            go_wp2_with fail
            go_roundg (3 - (i + 1))
            case measure => have := HK.out; have := HI.out; omega
            case rel => exact ⟨i + 1, by go_num, ⟨by have := HK.out; have := HI.out; omega⟩, HBr⟩
          · have T3 := Aside0.mk (t3.trans (decide_eq_true hxy))
            have b1 : (x == y) = false := beq_eq_false_iff_ne.mpr hxy
            have b2 : (x != y) = true := bne_iff_ne.mpr hxy
            clear t3 hxy
            go_wp2_with fail
            refine (differsV (RD'.out.below HBr.out) (by rw [List.length_map]; omega) k true T3.out).mono ?_
            rintro e y1 ⟨rfl, h1⟩
            replace HBr := Aside0.mk (below_step HBr.out h1)
            clear h1
            go_wp2_with fail
            refine (holderV (RA'.out.below HBr.out) k x ((holderL_valid VA.out k).trans HXX.out)).mono ?_
            rintro e y2 ⟨rfl, h1⟩
            replace HBr := Aside0.mk (below_step HBr.out h1)
            clear h1
            go_wp2_with fail
            refine (holderV (RB'.out.below HBr.out) k y ((holderL_valid VB.out k).trans HYY.out)).mono ?_
            rintro e y3 ⟨rfl, h1⟩
            replace HBr := Aside0.mk (below_step HBr.out h1)
            clear h1
            go_wp2_with fail
            go_roundg (3 - (i + 1))
            case measure => have := HK.out; have := HI.out; omega
            case rel => exact ⟨i + 1, by go_num, ⟨by have := HK.out; have := HI.out; omega⟩, HBr⟩
        · have hib : decide ((i : Int) < 3) = false := decide_eq_false (by omega)
          have q1 := eq_false (show ¬ (i : Int) < 3 by omega)
          replace RA' := Aside0.mk (RA'.out.below HBr.out)
          replace RAC' := Aside0.mk (Kd.C_below RAC'.out HBr.out)
          replace HB := Aside0.mk (below_step HB.out HBr.out)
          clear hi RB' RD' HN HK HBr
          by_cases ha : a.length = 0
          · have b1 : ((a.length : Int) == 0) = true := beq_iff_eq.mpr (by omega)
            clear ha
            go_wp2_with fail
            go_ret
            exact ⟨rfl, HB.out⟩
          · have b1 : ((a.length : Int) == 0) = false := beq_eq_false_iff_ne.mpr (by omega)
            have hj := pickP_range wh (a.length : Int) (by omega)
            obtain ⟨j, hj2⟩ : ∃ j : Nat, pickP wh (a.length : Int) = (j : Int) := ⟨(pickP wh (a.length : Int)).toNat, by omega⟩
            have PJ := Aside0.mk (fun w' => pickV' wh (a.length : Int) (j : Int) HWH.out (by omega) hj2 w')
            have jb : j < a.length := by omega
            have q2 := eq_true (show (j : Int) < (a.length : Int) by omega)
            have q3 := eq_true (show (0 : Int) ≤ (j : Int) by omega)
            obtain ⟨r0, r1, r2, r3, r4⟩ := GB.out j jb
            have gs := GS.out j jb
            clear ha hj hj2
            go_wp2_with fail
            refine (PJ.out _).mono ?_
            rintro e y1 ⟨rfl, h1⟩
            obtain ⟨ad, hAd, c0, c1, c2⟩ := at_T53 (Kd.C_below RAC'.out h1) (j : Int) (by omega) (by omega)
            replace RA' := Aside0.mk (RA'.out.below h1)
            replace HB := Aside0.mk (below_step HB.out h1)
            subst hAd
            simp only [Int.toNat_natCast, rd_T53] at c0 c1 c2
            generalize a.getD j z53 = r at c0 c1 c2 r0 r1 r2 r3 r4 gs
            simp only [bF, bT, bC] at r0 r1 r2 r3 r4 gs
            clear RAC' h1 PJ
            obtain ⟨f0, hf0⟩ : ∃ x, x = r.f0.f0 := ⟨_, rfl⟩
            obtain ⟨f1, hf1⟩ : ∃ x, x = r.f0.f1 := ⟨_, rfl⟩
            obtain ⟨f2, hf2⟩ : ∃ x, x = r.f1 := ⟨_, rfl⟩
            rw [← hf0] at c0 r0 r1 gs
            rw [← hf1] at c1 r1 r2 gs
            rw [← hf2] at c2 r3 r4 gs
            have hz := pickP_range n (f1 - f0) (by omega)
            generalize hzz : pickP n (f1 - f0) = z at hz
            have PZ := Aside0.mk (fun w' => pickV' n (f1 - f0) z HNN.out (by omega) hzz w')
            generalize hln : f1 - f0 = ln at *
            generalize hpf : f0 + z = pf at *
            have hz2 := pickP_range wh (f1 - pf) (by omega)
            generalize hzz2 : pickP wh (f1 - pf) = z2 at hz2
            have PZ2 := Aside0.mk (fun w' => pickV' wh (f1 - pf) z2 HWH.out (by omega) hzz2 w')
            generalize hln2 : f1 - pf = ln2 at *
            generalize hpt : pf + 1 + z2 = pt at *
            have GV := Aside0.mk (gs pf pt (by omega) (by omega) (by omega))
            have e1 : IntKind.i64.wrap (f1 - f0) = ln := by rw [IntWalk.i64_in _ (by omega)]; omega
            have e2 : IntKind.i64.wrap (f0 + z) = pf := by rw [IntWalk.i64_in _ (by omega)]; omega
            have e3 : IntKind.i64.wrap (f1 - pf) = ln2 := by rw [IntWalk.i64_in _ (by omega)]; omega
            have e4 : IntKind.i64.wrap (pf + 1) = pf + 1 := IntWalk.i64_in _ (by omega)
            have e5 : IntKind.i64.wrap (pf + 1 + z2) = pt := by rw [IntWalk.i64_in _ (by omega)]; omega
            have E1 := Aside0.mk e1
            have E2 := Aside0.mk e2
            have E3 := Aside0.mk e3
            have E4 := Aside0.mk e4
            have E5 := Aside0.mk e5
            clear hf0 hf1 hf2 hz hzz hln hpf hz2 hzz2 hln2 hpt gs r0 r1 r2 r3 r4 e1 e2 e3 e4 e5
            go_upto_region 23 with (fail)
            have hal := (Below.refl _ y1).alloc (Nat.le_refl _) (.cells #[.int .i64 f0, .int .i64 f1, .int .i64 f2] 53)
            have HS := Aside0.mk (blk_new y1 (.cells #[.int .i64 f0, .int .i64 f1, .int .i64 f2] 53))
            replace RA' := Aside0.mk (RA'.out.below hal)
            replace HB := Aside0.mk (below_step HB.out hal)
            clear hal c0 c1 c2
            generalize hW : y1.alloc (.cells #[.int .i64 f0, .int .i64 f1, .int .i64 f2] 53) = W at *
            generalize y1.heap.size = gb at *
            clear hW
            go_cut [18] (fun s18 w' => ∃ g, s18 = .pointer (some ⟨g, 0, none⟩) ∧ Aside0 (w'.heap[g]? = some (.cells #[.int .i64 pf, .int .i64 0] 26 (0, 0))) ∧ Aside0 (W.heap.size ≤ g) ∧ Aside0 (Below W.heap.size W w'))
            case first =>
              have HR := Aside0.mk (Below.refl W.heap.size W)
              have d0 : W.cell? ⟨gb, 0, none⟩ = some (.int .i64 f0) := (blk_cell HS.out 0).trans rfl
              have d1 : W.cell? ⟨gb, 1, none⟩ = some (.int .i64 f1) := (blk_cell HS.out 1).trans rfl
              have hlt := World.block_lt_of_cell? W _ d0
              have e1 := E1.out
              have e2 := E2.out
              go_region_held3 (fun w' => w'.cell? ⟨gb, 0, none⟩ = some (.int .i64 f0) ∧ w'.cell? ⟨gb, 1, none⟩ = some (.int .i64 f1)) (first | exact ⟨d0, d1⟩ | exact ⟨cell_drew_far d0, cell_drew_far d1⟩ | exact ⟨cell_alloc_far d0 _, cell_alloc_far d1 _⟩ | exact ⟨cell_drew_far (cell_alloc_far d0 _), cell_drew_far (cell_alloc_far d1 _)⟩ | exact ⟨cell_alloc_far (cell_drew_far d0) _, cell_alloc_far (cell_drew_far d1) _⟩ | exact ⟨cell_far2 d0 hlt _ _, cell_far2 d1 hlt _ _⟩ | exact ⟨cell_far2 (cell_alloc_far d0 _) (World.block_lt_of_cell? _ _ d0) _ _, cell_far2 (cell_alloc_far d1 _) (World.block_lt_of_cell? _ _ d1) _ _⟩ | exact ⟨cell_far2 (cell_drew_far (cell_alloc_far d0 _)) (World.block_lt_of_cell? _ _ d0) _ _, cell_far2 (cell_drew_far (cell_alloc_far d1 _)) (World.block_lt_of_cell? _ _ d1) _ _⟩)
                (first | (go_at_call 17; with_reducible refine (PZ.out _).mono ?_; rintro e w1 ⟨rfl, h1⟩; have H1 : Aside0 (Below W.heap.size W w1) := (by first | exact ⟨below_step (below_drew (Below.refl _ _)) h1⟩ | exact ⟨below_step (below_drew ((Below.refl _ W).alloc (Nat.le_refl _) _)) h1⟩); have d0 : w1.cell? ⟨gb, 0, none⟩ = some (.int .i64 f0) := pw_cell_below H1.out d0; have d1 : w1.cell? ⟨gb, 1, none⟩ = some (.int .i64 f1) := pw_cell_below H1.out d1; (try (have bb := blk_below (blk_drew (blk_new W (.cells #[.int .i64 0, .int .i64 0] 26))) h1; have b0 := (blk_cell bb 0).trans rfl; have b1 := (blk_cell bb 1).trans rfl; have f0 := blk_frozen bb 0; have f1 := blk_frozen bb 1; have BB := Aside0.mk bb; clear bb)); clear h1))
              · go_wp2_with fail
                go_meet
                case rel => exact ⟨w1.heap.size, rfl, ⟨blk_new w1 _⟩, ⟨H1.out.size⟩, ⟨H1.out.alloc H1.out.size _⟩⟩
              · go_wp2_with fail
                go_meet
                case rel => exact ⟨W.heap.size, rfl, ⟨blk_put (blk_put BB.out 0 _ rfl) 1 _ rfl⟩, ⟨Nat.le_refl _⟩, ⟨(H1.out.setCell (p := ⟨W.heap.size, 0, none⟩) (Nat.le_refl _) _).setCell (p := ⟨W.heap.size, 1, none⟩) (Nat.le_refl _) _⟩⟩
            case rest =>
              obtain ⟨g, rfl, HG, HGE, HBr⟩ := hcut
              have d0 : wc.cell? ⟨g, 0, none⟩ = some (.int .i64 pf) := (blk_cell HG.out 0).trans rfl
              have d1 : wc.cell? ⟨gb, 1, none⟩ = some (.int .i64 f1) := (blk_cell (blk_below HS.out HBr.out) 1).trans rfl
              have n0 : (⟨g, 1, none⟩ : Addr) ≠ ⟨g, 0, none⟩ := by intro e; injection e with e1 e2; omega
              have n1 : (⟨g, 1, none⟩ : Addr) ≠ ⟨gb, 1, none⟩ := by
                have hlt : gb < W.heap.size := World.block_lt_of_cell? W ⟨gb, 1, none⟩ ((blk_cell HS.out 1).trans rfl)
                have := HGE.out
                intro e
                injection e with e1 e2
                omega
              go_upto_region 24 with (fail)
              go_cut [18] (fun s18 w' => s18 = .pointer (some ⟨g, 0, none⟩) ∧ Aside0 (w'.heap[g]? = some (.cells #[.int .i64 pf, .int .i64 pt] 26 (0, 0))) ∧ Aside0 (Below W.heap.size W w'))
              case first =>
                have e3 := E3.out
                have e4 := E4.out
                have e5 := E5.out
                go_region_held3 (fun w' => w'.cell? ⟨g, 0, none⟩ = some (.int .i64 pf) ∧ w'.cell? ⟨gb, 1, none⟩ = some (.int .i64 f1)) (first | exact ⟨d0, d1⟩ | exact ⟨cell_drew_far d0, cell_drew_far d1⟩ | exact ⟨(World.cell?_setCell_other _ _ _ _ n0).trans d0, (World.cell?_setCell_other _ _ _ _ n1).trans d1⟩)
                  (first | (go_at_call 17; with_reducible refine (PZ2.out _).mono ?_; rintro e w1 ⟨rfl, h1⟩; have H1 : Aside0 (Below W.heap.size W w1) := (by first | exact ⟨below_step HBr.out h1⟩ | exact ⟨below_step (below_drew HBr.out) h1⟩); have BB : Aside0 (w1.heap[g]? = some (.cells #[.int .i64 pf, .int .i64 0] 26 (0, 0))) := (by first | exact ⟨blk_below HG.out h1⟩ | exact ⟨blk_below (blk_drew HG.out) h1⟩); have d0 : w1.cell? ⟨g, 0, none⟩ = some (.int .i64 pf) := (blk_cell BB.out 0).trans rfl; have d2 : w1.cell? ⟨g, 1, none⟩ = some (.int .i64 0) := (blk_cell BB.out 1).trans rfl; have d1 : w1.cell? ⟨gb, 1, none⟩ = some (.int .i64 f1) := (blk_cell (blk_below HS.out H1.out) 1).trans rfl; have z0 := blk_frozen BB.out 0; have z1 := blk_frozen BB.out 1; clear h1))
                go_wp2_with fail
                go_meet
                case rel => exact ⟨rfl, ⟨blk_put BB.out 1 _ rfl⟩, ⟨H1.out.setCell (p := ⟨g, 1, none⟩) HGE.out _⟩⟩
              case rest =>
                obtain ⟨rfl, HG2, HB2⟩ := hcut
                have c0 : wc.cell? ⟨g, 0, none⟩ = some (.int .i64 pf) := (blk_cell HG2.out 0).trans rfl
                have c1 : wc.cell? ⟨g, 1, none⟩ = some (.int .i64 pt) := (blk_cell HG2.out 1).trans rfl
                have c2 : wc.cell? ⟨gb, 2, none⟩ = some (.int .i64 f2) := (blk_cell (blk_below HS.out HB2.out) 2).trans rfl
                replace RA' := Aside0.mk (RA'.out.below HB2.out)
                replace HB := Aside0.mk (below_step HB.out HB2.out)
                clear d0 d1 HG HBr HB2
                go_wp2_with fail
                refine (giveV RA'.out pf pt f2 a 0 GV.out).mono ?_
                rintro e y2 ⟨u1, rfl, R1, h1⟩
                replace RA' := Aside0.mk (RA'.out.below h1)
                replace HB := Aside0.mk (below_step HB.out h1)
                have RS := Aside0.mk R1
                clear h1 R1 c0 c1 c2
                go_wp2_with fail
                refine (differV RA'.out RS.out [] 0 DAA.out).mono ?_
                rintro e y3 ⟨u2, rfl, R2, h1⟩
                replace RA' := Aside0.mk (RA'.out.below h1)
                replace RS := Aside0.mk (RS.out.below h1)
                replace HB := Aside0.mk (below_step HB.out h1)
                obtain ⟨An, cn, hvn, _, _⟩ := R2
                subst hvn
                clear h1
                have z0 : (([] : List S26).length : Int) = 0 := rfl
                have z1 : ((0 : Int) == 0) = true := rfl
                go_wp2_with fail
                refine (sameV RS.out RA'.out (valid1000 VA.out) true ((sameP_iff a a).2 rfl)).mono ?_
                rintro e y4 ⟨rfl, h1⟩
                replace HB := Aside0.mk (below_step HB.out h1)
                clear h1
                go_wp2_with fail
                go_ret
                exact ⟨rfl, HB.out⟩
end Go.Proofs.Ytdflgjgoikofaaa.Bk

namespace Go.Proofs.Ytdflgjgoikofaaa.blockCanonical
open Go.ChangeShapes Go.WideShapes Go.ChangeAt Go.RowKit
open Go.ChangeMaps (open_string shut_string)
set_option linter.unusedVariables false

theorem own : ownKnob Try.prog.godebug = none := by kernel_rfl
theorem laidOut : laidOutB Try.prog = true := by kernel_rfl

set_option maxRecDepth 100000 in
theorem lifted (os : Os) (started : os.Started) (H : Type) (enc : TypeId × Value → H) :
    ReturnsInHanded {} Try.checked os 5 .any (Rows.blockCanonicalSpec.pre6 enc Try.prog Try.f5 Rows.blockCanonicalRow.domain false) (Rows.blockCanonicalSpec.post enc Try.prog Try.f5 false true false false) := by
  refine returnsInHanded_of_change (C := Try.checked) own started (by kernel_rfl) Try.func5
    (ChangeSpec.witness6 (enc := enc) (C := Try.checked) false ⟨#[], #[.slice none 0 0, .slice none 0 0, .int .i64 0, .int .i64 0], []⟩ 8 (by kernel_rfl) (by kernel_rfl) (by kernel_rfl) (by kernel_rfl)) ?_
  intro W base args ds gs before hval0 hW hcnd _
  have hval : ∀ (j : Nat) t v, Try.f5.params[j]? = some t → args[j]? = some v → Value.okWide Try.prog W .any base t v := hval0
  have hW' := hW
  obtain ⟨p, q, hA0, hV, rfl, hfz, hnd⟩ := hW
  have hA : DataW.TrodAll enc Try.prog W 0 (fun _ => true) true Try.f5.params.toList args.toList ds p := hA0
  rw [Try.params5] at hA hval
  obtain ⟨v0, vs0, d0, ds0, p0, q0, hargs, rfl, rfl, h0, r0⟩ := trodAll_cons hA
  obtain ⟨v1, vs1, d1, ds1, p1, q1, rfl, rfl, rfl, h1, r1⟩ := trodAll_cons r0
  obtain ⟨v2, vs2, d2, ds2, p2, q2, rfl, rfl, rfl, h2, r2⟩ := trodAll_cons r1
  obtain ⟨v3, vs3, d3, ds3, p3, q3, rfl, rfl, rfl, h3, r3⟩ := trodAll_cons r2
  obtain ⟨rfl, rfl, rfl⟩ := trodAll_nil r3
  obtain rfl : args = #[v0, v1, v2, v3] := by cases args; simp_all
  obtain ⟨rfl, rfl⟩ := trodVars_none hV
  obtain ⟨a0, len0, cap0, rfl⟩ := okWide_slice Try.underlying22 (hval 0 22 v0 rfl rfl)
  have k0 := h0
  have lt0 : ∀ x ∈ p0, x.block < W.heap.size := by obtain ⟨m, hm⟩ := k0; exact DataW.trod_lt m _ _ _ hm
  obtain ⟨xs0, rfl, c0, l0, w0⟩ : ∃ xs : List (Int × Int × Int), xs.length = len0 ∧ len0 ≤ cap0 ∧ len0 ≤ maxLen ∧ Bk.Trip W a0 xs := by
    obtain ⟨fuel, hf⟩ := h0
    exact Bk.trip_of_trod hf
  obtain ⟨a1, len1, cap1, rfl⟩ := okWide_slice Try.underlying22 (hval 1 22 v1 rfl rfl)
  have k1 := h1
  have lt1 : ∀ x ∈ p1, x.block < W.heap.size := by obtain ⟨m, hm⟩ := k1; exact DataW.trod_lt m _ _ _ hm
  obtain ⟨xs1, rfl, c1, l1, w1⟩ : ∃ xs : List (Int × Int × Int), xs.length = len1 ∧ len1 ≤ cap1 ∧ len1 ≤ maxLen ∧ Bk.Trip W a1 xs := by
    obtain ⟨fuel, hf⟩ := h1
    exact Bk.trip_of_trod hf
  obtain ⟨a2, rfl, rfl, rfl, w2⟩ := open_int Try.underlying3 (hval 2 3 v2 rfl rfl) h2
  obtain ⟨a3, rfl, rfl, rfl, w3⟩ := open_int Try.underlying3 (hval 3 3 v3 rfl rfl) h3
  clear hA0 hval0
  refine (Bk.blockCanonical_calls xs0 xs1 a0 a1 cap0 cap1 a2 a3 W w0 w1 c0 c1 (by unfold maxLen at l0; omega) (by unfold maxLen at l1; omega) (Bk.I64_of_wf w2) (Bk.I64_of_wf w3)).mono fun e W' ⟨he, bel⟩ => ?_
  subst he
  exact ⟨_, rfl, _, _, _, [], _, [], hW', trodAll_mk1 (shut_bool Try.underlying4 _), (trodAll_cons_mk (Below.trod laidOut (by kernel_rfl) (of_decide_eq_true (by kernel_rfl)) k0 bel lt0) (trodAll_cons_mk (Below.trod laidOut (by kernel_rfl) (of_decide_eq_true (by kernel_rfl)) k1 bel lt1) (trodAll_cons_mk (shut_int Try.underlying3 w2) (trodAll_cons_mk (shut_int Try.underlying3 w3) trodAll_mk0)))), rfl, bel.frame _, fun h => by cases h⟩

theorem over : Rows.blockCanonicalRow.holds Try.pinned (OpenSpec.ofChange Rows.blockCanonicalSpec) :=
  OpenClaim.holds_of_wide 5 Try.f5 rfl rfl rfl rfl rfl rfl rfl ⟨rfl, rfl, rfl, rfl, rfl⟩ rfl rfl rfl rfl rfl (by kernel_rfl) Try.func5 (by kernel_rfl)
    (of_decide_eq_true (by kernel_rfl)) (by unfold Func.isWrapper; first | (rw [if_pos (by decide +kernel)]; kernel_rfl) | (rw [if_neg (by decide +kernel)]; exact ⟨rfl, rfl⟩))
    (fun os started H enc _ => lifted os started H enc)

theorem proved : Rows.BlockCanonicalSaid := over
#print axioms proved
end Go.Proofs.Ytdflgjgoikofaaa.blockCanonical
