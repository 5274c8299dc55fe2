/- Proved: the law BlockDiffers of package block returns true at every input, and changes none; no condition. -/
import Derived.Test.YtdflgjgoikofaaaZ6
import Derived.Test.YtdflgjgoikofaaaZ7
import Derived.Test.YtdflgjgoikofaaaRows
import Derived.WalkKit
import Derived.ProofKit
import Derived.OpenShut
import Derived.ShutString
import Derived.ChangeOld
import Derived.Below
set_option linter.unusedVariables false
set_option linter.unusedSimpArgs false
set_option linter.unusedVariables false
namespace Go.Proofs.Ytdflgjgoikofaaa.Bk
open Go.RowKit Go.Shelf Go.Proofs.YtdflgjgoikofaaaW.PrintWords Go.Proofs.YtdflgjgoikofaaaW.PrintLast Go.Proofs.YtdflgjgoikofaaaW.PrintMore
open Go.Proofs.Ytdflgjgoikofaaa.Ref Go.Proofs.Ytdflgjgoikofaaa.Pl Go.Proofs.Ytdflgjgoikofaaa.Rg

theorem nearV {l : List S53} {v : Value} {w : World} (h : Rw w l v) (hv : validP l = true) (which n : Int) (hw : I64 which) (hn : I64 n) : Calls Try.prog 15 #[v, .int .i64 which, .int .i64 n] w fun e w' => e = .returned (.int .i64 (nearP l which n)) ∧ Below w.heap.size w w' := by
  obtain ⟨A, c, rfl, hc, hC⟩ := h
  exact dialtoneref13_Near.calls 2 A c l which n _ w hC hc (Near_f l which n hv hw hn 2 (by omega))
theorem pickV (c n : Int) (w : World) (hc : I64 c) (hn : 0 < n) : Calls Try.prog 17 #[.int .i64 c, .int .i64 n] w fun e w' => e = .returned (.int .i64 (pickP c n)) ∧ Below w.heap.size w w' :=
  (dialtonelaw13_pick.calls c n _ w (pick_law c n hc hn)).mono fun e w' h => by
    obtain ⟨h1, q, rfl⟩ := h
    exact ⟨h1, pw_below_drewN (Below.refl _ _) q⟩
theorem madeV (xs : List (Int × Int × Int)) (A : Option Addr) (c : Nat) (w : World) (hx : Trip w A xs) (hc : xs.length ≤ c) (hn : xs.length ≤ 9223372036854775807) :
    Calls Try.prog 12 #[.slice A xs.length c] w fun e w' => ∃ v, e = .returned v ∧ Rw w' (madeP xs) v ∧ Below w.heap.size w w' :=
  (made_calls xs A c w hx hc hn).mono fun e w' h => by
    obtain ⟨A', c', rfl, h1, h2, h3⟩ := h
    exact ⟨_, rfl, ⟨A', c', rfl, h2, h1⟩, h3⟩
theorem Trip.below {w w' : World} {A : Option Addr} {xs : List (Int × Int × Int)} (h : Trip w A xs) (hb : Below w.heap.size w w') : Trip w' A xs :=
  ⟨h.1, fun h0 => by
    obtain ⟨ad, rfl, h2⟩ := h.2 h0
    exact ⟨ad, rfl, fun i hi => ⟨pw_cell_below hb (h2 i hi).1, pw_cell_below hb (h2 i hi).2.1, pw_cell_below hb (h2 i hi).2.2⟩⟩⟩

set_option maxHeartbeats 8000000 in
set_option maxRecDepth 100000 in
theorem blockFree_calls (xs : List (Int × Int × Int)) (A : Option Addr) (c : Nat) (which n t btw : Int) (w : World) (hx : Trip w A xs) (hc : xs.length ≤ c) (hl : xs.length ≤ 9223372036854775807) (hwh : I64 which) (hn : I64 n) (ht : I64 t) (hb : I64 btw) :
    Calls Try.prog 10 #[.slice A xs.length c, .int .i64 which, .int .i64 n, .int .i64 t, .int .i64 btw] w fun e w' => e = .returned (.bool true) ∧ Below w.heap.size w w' := by
  have HX := Aside0.mk hx
  have HC := Aside0.mk hc
  have HL := Aside0.mk hl
  have HWH := Aside0.mk hwh
  have HN := Aside0.mk hn
  have HT := Aside0.mk ht
  have HBT := Aside0.mk hb
  clear hx hc hl hwh hn ht hb
  obtain ⟨E, e1, e2, e3⟩ := made_spec12 xs
  have HE1 := Aside0.mk e1
  have HE2 := Aside0.mk e2
  have HE3 := Aside0.mk e3
  clear e1 e2 e3
  go_enter Try.func10, Try.ntmps10
  go_wp2_with fail
  refine (sane_calls _).mono ?_
  rintro e w1 ⟨rfl, h1⟩
  have HB := Aside0.mk h1
  clear h1
  go_wp2_with fail
  refine (madeV xs A c _ (HX.out.below HB.out) HC.out HL.out).mono ?_
  rintro e w2 ⟨v, rfl, r2, h2⟩
  generalize madeP xs = a at *
  have RA := Aside0.mk r2
  replace HB := Aside0.mk (below_step HB.out h2)
  clear h2 r2
  go_wp2_with fail
  refine (nearV RA.out HE2.out which n HWH.out HN.out).mono ?_
  rintro e w3 ⟨rfl, h3⟩
  replace RA := Aside0.mk (RA.out.below h3)
  replace HB := Aside0.mk (below_step HB.out h3)
  clear h3
  generalize nearP a which n = k
  by_cases hk : 0 ≤ k ∧ k ≤ 99999999
  · obtain ⟨k0, k1⟩ := hk
    have b0 : decide (k < 0) = false := decide_eq_false (by omega)
    have b1 : decide (99999999 < k) = false := decide_eq_false (by omega)
    rcases free_spec HE2.out ⟨k0, k1⟩ with ⟨f1, f2⟩ | ⟨m, f1, f2, f3, f4, f5⟩
    · have F1 := Aside0.mk f1
      have hp := pickP_range btw (100000000 - k) (by omega)
      have hh := f2 (k + pickP btw (100000000 - k)) (by omega) (by omega)
      have HP := Aside0.mk hp
      have HH := Aside0.mk hh
      have hpos : 0 < 100000000 - k := by omega
      clear f1 f2 hh
      go_wp2_with fail
      refine (freeV RA.out k 0 false F1.out).mono ?_
      rintro e w4 ⟨rfl, h4⟩
      replace RA := Aside0.mk (RA.out.below h4)
      replace HB := Aside0.mk (below_step HB.out h4)
      clear h4
      go_wp2_with fail
      refine (pickV btw _ _ HBT.out hpos).mono ?_
      rintro e w5 ⟨rfl, h5⟩
      replace RA := Aside0.mk (RA.out.below h5)
      replace HB := Aside0.mk (below_step HB.out h5)
      clear h5
      generalize pickP btw (100000000 - k) = z at *
      go_wp2_with fail
      refine (holderV RA.out _ (hold a (k + z)) (holderL_valid HE2.out _)).mono ?_
      rintro e w6 ⟨rfl, h6⟩
      replace HB := Aside0.mk (below_step HB.out h6)
      clear h6
      have hz : decide (0 ≤ hold a (k + z)) = true := decide_eq_true HH.out
      generalize hold a (k + z) = y at *
      go_wp2_with fail
      go_ret
      exact ⟨rfl, HB.out⟩
    · have F1 := Aside0.mk f1
      have F4 := Aside0.mk f4
      replace f5 := Aside0.mk f5
      have K0 := Aside0.mk (And.intro k0 (And.intro k1 (And.intro f2 f3)))
      have b2 : decide (m < k) = false := decide_eq_false (by omega)
      have b3 : decide (99999999 < m) = false := decide_eq_false (by omega)
      clear f1 f4
      go_wp2_with fail
      refine (freeV RA.out k m true F1.out).mono ?_
      rintro e w4 ⟨rfl, h4⟩
      replace RA := Aside0.mk (RA.out.below h4)
      replace HB := Aside0.mk (below_step HB.out h4)
      clear h4
      go_wp2_with fail
      refine (holderV RA.out m (-1) ((holderL_valid HE2.out _).trans F4.out)).mono ?_
      rintro e w5 ⟨rfl, h5⟩
      replace RA := Aside0.mk (RA.out.below h5)
      replace HB := Aside0.mk (below_step HB.out h5)
      clear h5
      by_cases hkm : k < m
      · have b4 : decide (k < m) = true := decide_eq_true hkm
        have hpos : 0 < m - k := by omega
        have hp := pickP_range btw (m - k) hpos
        have hh := f5.out (k + pickP btw (m - k)) (by omega) (by omega)
        have HH := Aside0.mk hh
        clear hh
        go_wp2_with fail
        refine (pickV btw _ _ HBT.out hpos).mono ?_
        rintro e w6 ⟨rfl, h6⟩
        replace RA := Aside0.mk (RA.out.below h6)
        replace HB := Aside0.mk (below_step HB.out h6)
        clear h6
        generalize pickP btw (m - k) = z at *
        go_wp2_with fail
        refine (holderV RA.out _ (hold a (k + z)) (holderL_valid HE2.out _)).mono ?_
        rintro e wh ⟨rfl, hh6⟩
        replace RA := Aside0.mk (RA.out.below hh6)
        replace HB := Aside0.mk (below_step HB.out hh6)
        clear hh6
        have hz : decide (hold a (k + z) < 0) = false := decide_eq_false (by have := HH.out; omega)
        generalize hold a (k + z) = y at *
        go_wp2_with fail
        refine (pickV t 8 _ HT.out (by omega)).mono ?_
        rintro e w7 ⟨rfl, h7⟩
        replace RA := Aside0.mk (RA.out.below h7)
        replace HB := Aside0.mk (below_step HB.out h7)
        clear h7
        obtain ⟨out, g1, g2, g3, g4⟩ := give_spec HE2.out HE3.out (f := m) (t := m + 1) (c := pickP t 8) (by simp only [rangeB, Bool.and_eq_true, decide_eq_true_eq]; omega) (carr_pick8 t) (by have := HE1.out; omega)
        have hp8 := pickP_range t 8 (by omega)
        generalize pickP t 8 = c8 at *
        have G1 := Aside0.mk g1
        have G2 := Aside0.mk g2
        have hfree := free_spec g2 (n := k) (by have := K0.out; omega)
        have hcase : freeP out k = (0, false) ∨ ∃ j, freeP out k = (j, true) ∧ m < j := by
          rcases hfree with ⟨q1, _⟩ | ⟨j, q1, q2, q3, q4, _⟩
          · exact .inl q1
          · refine .inr ⟨j, q1, ?_⟩
            rw [g3 j] at q4
            by_cases hj : m ≤ j ∧ j < m + 1
            · rw [if_pos hj] at q4; omega
            · rw [if_neg hj] at q4
              by_cases hlt : j < m
              · have := f5.out j q2 hlt; omega
              · omega
        have HCASE := Aside0.mk hcase
        clear g1 g2 g3 g4 hfree hp8 hcase
        go_wp2_with fail
        refine (giveV RA.out m (m + 1) c8 out 0 G1.out).mono ?_
        rintro e w8 ⟨v8, rfl, r8, h8⟩
        have RO := Aside0.mk r8
        replace HB := Aside0.mk (below_step HB.out h8)
        clear r8 h8
        go_wp2_with fail
        rcases HCASE.out with q1 | ⟨j, q1, q2⟩
        · have Q1 := Aside0.mk q1
          clear q1
          refine (freeV RO.out k 0 false Q1.out).mono ?_
          rintro e w9 ⟨rfl, h9⟩
          replace HB := Aside0.mk (below_step HB.out h9)
          clear h9
          go_wp2_with fail
          go_ret
          exact ⟨rfl, HB.out⟩
        · have Q1 := Aside0.mk q1
          have hjb : decide (m < j) = true := decide_eq_true q2
          clear q1 q2
          refine (freeV RO.out k j true Q1.out).mono ?_
          rintro e w9 ⟨rfl, h9⟩
          replace HB := Aside0.mk (below_step HB.out h9)
          clear h9
          go_wp2_with fail
          go_ret
          exact ⟨rfl, HB.out⟩
      · have b4 : decide (k < m) = false := decide_eq_false hkm
        go_wp2_with fail
        refine (pickV t 8 _ HT.out (by omega)).mono ?_
        rintro e w7 ⟨rfl, h7⟩
        replace RA := Aside0.mk (RA.out.below h7)
        replace HB := Aside0.mk (below_step HB.out h7)
        clear h7
        obtain ⟨out, g1, g2, g3, g4⟩ := give_spec HE2.out HE3.out (f := m) (t := m + 1) (c := pickP t 8) (by simp only [rangeB, Bool.and_eq_true, decide_eq_true_eq]; omega) (carr_pick8 t) (by have := HE1.out; omega)
        have hp8 := pickP_range t 8 (by omega)
        generalize pickP t 8 = c8 at *
        have G1 := Aside0.mk g1
        have G2 := Aside0.mk g2
        have hfree := free_spec g2 (n := k) (by have := K0.out; omega)
        have hcase : freeP out k = (0, false) ∨ ∃ j, freeP out k = (j, true) ∧ m < j := by
          rcases hfree with ⟨q1, _⟩ | ⟨j, q1, q2, q3, q4, _⟩
          · exact .inl q1
          · refine .inr ⟨j, q1, ?_⟩
            rw [g3 j] at q4
            by_cases hj : m ≤ j ∧ j < m + 1
            · rw [if_pos hj] at q4; omega
            · rw [if_neg hj] at q4
              by_cases hlt : j < m
              · have := f5.out j q2 hlt; omega
              · omega
        have HCASE := Aside0.mk hcase
        clear g1 g2 g3 g4 hfree hp8 hcase
        go_wp2_with fail
        refine (giveV RA.out m (m + 1) c8 out 0 G1.out).mono ?_
        rintro e w8 ⟨v8, rfl, r8, h8⟩
        have RO := Aside0.mk r8
        replace HB := Aside0.mk (below_step HB.out h8)
        clear r8 h8
        go_wp2_with fail
        rcases HCASE.out with q1 | ⟨j, q1, q2⟩
        · have Q1 := Aside0.mk q1
          clear q1
          refine (freeV RO.out k 0 false Q1.out).mono ?_
          rintro e w9 ⟨rfl, h9⟩
          replace HB := Aside0.mk (below_step HB.out h9)
          clear h9
          go_wp2_with fail
          go_ret
          exact ⟨rfl, HB.out⟩
        · have Q1 := Aside0.mk q1
          have hjb : decide (m < j) = true := decide_eq_true q2
          clear q1 q2
          refine (freeV RO.out k j true Q1.out).mono ?_
          rintro e w9 ⟨rfl, h9⟩
          replace HB := Aside0.mk (below_step HB.out h9)
          clear h9
          go_wp2_with fail
          go_ret
          exact ⟨rfl, HB.out⟩
  · have hf : freeP a k = (0, false) := by unfold freeP; rw [if_neg (fun h => hk ⟨h.2.1, h.2.2⟩)]
    have HF := Aside0.mk hf
    have HK := Aside0.mk hk
    clear hf
    by_cases h0 : k < 0
    · have b0 : decide (k < 0) = true := decide_eq_true h0
      clear hk
      go_wp2_with fail
      refine (freeV RA.out k 0 false HF.out).mono ?_
      rintro e w4 ⟨rfl, h4⟩
      replace HB := Aside0.mk (below_step HB.out h4)
      clear h4
      go_wp2_with fail
      go_ret
      exact ⟨rfl, HB.out⟩
    · have b0 : decide (k < 0) = false := decide_eq_false h0
      have b1 : decide (99999999 < k) = true := decide_eq_true (by omega)
      clear hk h0
      go_wp2_with fail
      refine (freeV RA.out k 0 false HF.out).mono ?_
      rintro e w4 ⟨rfl, h4⟩
      replace HB := Aside0.mk (below_step HB.out h4)
      clear h4
      go_wp2_with fail
      go_ret
      exact ⟨rfl, HB.out⟩
end Go.Proofs.Ytdflgjgoikofaaa.Bk

set_option linter.unusedVariables false
namespace Go.Proofs.Ytdflgjgoikofaaa.Bk
open Go.RowKit Go.Shelf Go.Proofs.YtdflgjgoikofaaaW.PrintWords Go.Proofs.YtdflgjgoikofaaaW.PrintLast Go.Proofs.YtdflgjgoikofaaaW.PrintMore
open Go.Proofs.Ytdflgjgoikofaaa.Ref Go.Proofs.Ytdflgjgoikofaaa.Pl Go.Proofs.Ytdflgjgoikofaaa.Rg
attribute [local go_sem high] run_min_min run_max_max

theorem Trip.take {w : World} {A : Option Addr} {xs : List (Int × Int × Int)} (h : Trip w A xs) (n : Nat) : Trip w A (xs.take n) := by
  refine ⟨fun x hx => h.1 x (List.mem_of_mem_take hx), fun h0 => ?_⟩
  simp only [List.length_take] at h0
  obtain ⟨ad, rfl, h2⟩ := h.2 (by omega)
  refine ⟨ad, rfl, fun i hi => ?_⟩
  simp only [List.length_take] at hi
  have e : (xs.take n).getD i (0, 0, 0) = xs.getD i (0, 0, 0) := by simp only [List.getD_eq_getElem?_getD]; rw [List.getElem?_take, if_pos (by omega)]
  rw [e]
  exact h2 i (by omega)
theorem madeTV {w : World} {A : Option Addr} {xs : List (Int × Int × Int)} (hx : Trip w A xs) (c : Nat) (hc : xs.length ≤ c) (n k : Nat) (hn : n ≤ 1000) (hk : k = min xs.length n) :
    Calls Try.prog 12 #[.slice A k c] w fun e w' => ∃ v, e = .returned v ∧ Rw w' (madeP (xs.take n)) v ∧ Below w.heap.size w w' := by
  have e : k = (xs.take n).length := by rw [List.length_take]; omega
  rw [e]
  exact madeV _ A c w (hx.take n) (by rw [List.length_take]; omega) (by rw [List.length_take]; omega)
theorem valid_eq {l m : List S53} (h1 : validP l = true) (h2 : validP m = true) (h : ∀ n, hold l n = hold m n) : sameP l m = true := (sameP_iff l m).2 (valid_ext l b00 b00 m (validP_from h1) (validP_from h2) h)
theorem valid1000 {l : List S53} (h : validP l = true) : l.length ≤ 1000 := by have := validP_len h; omega

set_option maxHeartbeats 8000000 in
set_option maxRecDepth 100000 in
theorem blockOverlays_calls (xs ys zs : List (Int × Int × Int)) (A B C : Option Addr) (ca cb cc : Nat) (q0 q1 : Int) (w : World) (hx : Trip w A xs) (hy : Trip w B ys) (hz : Trip w C zs) (hca : xs.length ≤ ca) (hcb : ys.length ≤ cb) (hcc : zs.length ≤ cc)
    (h0 : I64 q0) (h1 : I64 q1) :
    Calls Try.prog 7 #[.slice A xs.length ca, .slice B ys.length cb, .slice C zs.length cc, .agg #[.int .i64 q0, .int .i64 q1]] w fun e w' => e = .returned (.bool true) ∧ Below w.heap.size w w' := by
  have HX := Aside0.mk (hx.below ((Below.refl _ w).alloc (Nat.le_refl _) (.cells #[.int .i64 q0, .int .i64 q1] 35)))
  have HY := Aside0.mk (hy.below ((Below.refl _ w).alloc (Nat.le_refl _) (.cells #[.int .i64 q0, .int .i64 q1] 35)))
  have HZ := Aside0.mk (hz.below ((Below.refl _ w).alloc (Nat.le_refl _) (.cells #[.int .i64 q0, .int .i64 q1] 35)))
  have CX := Aside0.mk hca
  have CY := Aside0.mk hcb
  have CZ := Aside0.mk hcc
  have H0 := Aside0.mk h0
  have H1 := Aside0.mk h1
  have HQ := Aside0.mk (blk_new w (.cells #[.int .i64 q0, .int .i64 q1] 35))
  have HB := Aside0.mk ((Below.refl _ w).alloc (Nat.le_refl _) (.cells #[.int .i64 q0, .int .i64 q1] 35))
  obtain ⟨kx, hkx⟩ : ∃ k : Nat, k = min xs.length 8 := ⟨_, rfl⟩
  obtain ⟨ky, hky⟩ : ∃ k : Nat, k = min ys.length 5 := ⟨_, rfl⟩
  obtain ⟨kz, hkz⟩ : ∃ k : Nat, k = min zs.length 5 := ⟨_, rfl⟩
  have mx1 : min (xs.length : Int) 8 = (kx : Int) := by omega
  have mx2 := eq_true (show (0 : Int) ≤ (kx : Int) by omega)
  have mx3 := eq_true (show (kx : Int) ≤ (ca : Int) by omega)
  have my1 : min (ys.length : Int) 5 = (ky : Int) := by omega
  have my2 := eq_true (show (0 : Int) ≤ (ky : Int) by omega)
  have my3 := eq_true (show (ky : Int) ≤ (cb : Int) by omega)
  have mz1 : min (zs.length : Int) 5 = (kz : Int) := by omega
  have mz2 := eq_true (show (0 : Int) ≤ (kz : Int) by omega)
  have mz3 := eq_true (show (kz : Int) ≤ (cc : Int) by omega)
  have KX := Aside0.mk hkx
  have KY := Aside0.mk hky
  have KZ := Aside0.mk hkz
  clear hx hy hz hca hcb hcc h0 h1 hkx hky hkz
  obtain ⟨EA, ea_, va_, ca_⟩ := made_spec (xs.take 8) 8 (by rw [List.length_take]; omega) (by omega)
  obtain ⟨EB, eb_, vb_, cb_⟩ := made_spec (ys.take 5) 5 (by rw [List.length_take]; omega) (by omega)
  obtain ⟨EC, ec_, vc_, cc_⟩ := made_spec (zs.take 5) 5 (by rw [List.length_take]; omega) (by omega)
  have MX := fun w' (h : Trip w' A xs) => madeTV h ca CX.out 8 kx (by omega) KX.out
  have MY := fun w' (h : Trip w' B ys) => madeTV h cb CY.out 5 ky (by omega) KY.out
  have MZ := fun w' (h : Trip w' C zs) => madeTV h cc CZ.out 5 kz (by omega) KZ.out
  have PR := piece_range q0 q1
  have PC := fun w' => piece_calls q0 q1 w' H0.out H1.out
  generalize madeP (xs.take 8) = a at *
  generalize madeP (ys.take 5) = b at *
  generalize madeP (zs.take 5) = c at *
  generalize pieceP q0 q1 = p at *
  obtain ⟨p0, p1⟩ := p
  have VA := Aside0.mk va_
  have VB := Aside0.mk vb_
  have VC := Aside0.mk vc_
  obtain ⟨ab, ab1_, ab2_, ab3_, ab4_⟩ := overlay_spec va_ ca_ vb_ cb_ (by omega)
  have AB1 := Aside0.mk ab1_
  have AB2 := Aside0.mk ab2_
  have AB3 := Aside0.mk ab3_
  have AB4 := Aside0.mk ab4_
  clear ab1_ ab2_ ab3_ ab4_
  obtain ⟨bc, bc1_, bc2_, bc3_, bc4_⟩ := overlay_spec vb_ cb_ vc_ cc_ (by omega)
  have BC1 := Aside0.mk bc1_
  have BC2 := Aside0.mk bc2_
  have BC3 := Aside0.mk bc3_
  have BC4 := Aside0.mk bc4_
  clear bc1_ bc2_ bc3_ bc4_
  obtain ⟨abc, abc1_, abc2_, abc3_, abc4_⟩ := overlay_spec AB2.out AB4.out vc_ cc_ (by simp only [List.length_append]; omega)
  have ABC1 := Aside0.mk abc1_
  have ABC2 := Aside0.mk abc2_
  have ABC3 := Aside0.mk abc3_
  have ABC4 := Aside0.mk abc4_
  clear abc1_ abc2_ abc3_ abc4_
  obtain ⟨rt, rt1_, rt2_, rt3_, rt4_⟩ := overlay_spec va_ ca_ BC2.out BC4.out (by simp only [List.length_append]; omega)
  have RT1 := Aside0.mk rt1_
  have RT2 := Aside0.mk rt2_
  have RT3 := Aside0.mk rt3_
  have RT4 := Aside0.mk rt4_
  clear rt1_ rt2_ rt3_ rt4_
  obtain ⟨sf, sf1_, sf2_, sf3_, sf4_⟩ := overlay_spec va_ ca_ va_ ca_ (by omega)
  have SF1 := Aside0.mk sf1_
  have SF2 := Aside0.mk sf2_
  have SF3 := Aside0.mk sf3_
  have SF4 := Aside0.mk sf4_
  clear sf1_ sf2_ sf3_ sf4_
  obtain ⟨ls, ls1_, ls2_, ls3_, ls4_⟩ := take_spec va_ ca_ PR (by omega)
  have LS1 := Aside0.mk ls1_
  have LS2 := Aside0.mk ls2_
  have LS3 := Aside0.mk ls3_
  have LS4 := Aside0.mk ls4_
  clear ls1_ ls2_ ls3_ ls4_
  obtain ⟨pt, pt1_, pt2_, pt3_, pt4_⟩ := only_spec va_ ca_ PR (by omega)
  have PT1 := Aside0.mk pt1_
  have PT2 := Aside0.mk pt2_
  have PT3 := Aside0.mk pt3_
  have PT4 := Aside0.mk pt4_
  clear pt1_ pt2_ pt3_ pt4_
  obtain ⟨bk, bk1_, bk2_, bk3_, bk4_⟩ := overlay_spec LS2.out LS4.out PT2.out PT4.out (by simp only [List.length_append, List.length_cons, List.length_nil]; omega)
  have BK1 := Aside0.mk bk1_
  have BK2 := Aside0.mk bk2_
  have BK3 := Aside0.mk bk3_
  have BK4 := Aside0.mk bk4_
  clear bk1_ bk2_ bk3_ bk4_
  obtain ⟨ag, ag1_, ag2_, ag3_, ag4_⟩ := overlay_spec PT2.out PT4.out LS2.out LS4.out (by simp only [List.length_append, List.length_cons, List.length_nil]; omega)
  have AG1 := Aside0.mk ag1_
  have AG2 := Aside0.mk ag2_
  have AG3 := Aside0.mk ag3_
  have AG4 := Aside0.mk ag4_
  clear ag1_ ag2_ ag3_ ag4_
  have MXA := Aside0.mk MX
  have MYA := Aside0.mk MY
  have MZA := Aside0.mk MZ
  have PCA := Aside0.mk PC
  clear ea_ va_ ca_ eb_ vb_ cb_ ec_ vc_ cc_ MX MY MZ PC PR
  go_enter Try.func7, Try.ntmps7
  go_wp2_with fail
  refine (sane_calls _).mono ?_
  rintro e w1_ ⟨rfl, h1_⟩
  replace HX := Aside0.mk ((HX.out).below h1_)
  replace HY := Aside0.mk ((HY.out).below h1_)
  replace HZ := Aside0.mk ((HZ.out).below h1_)
  replace HQ := Aside0.mk (blk_below HQ.out h1_)
  replace HB := Aside0.mk (below_step HB.out h1_)
  clear h1_
  go_wp2_with fail
  refine (MXA.out _ HX.out).mono ?_
  rintro e w2_ ⟨v2_, rfl, r2_, h2_⟩
  replace HX := Aside0.mk ((HX.out).below h2_)
  replace HY := Aside0.mk ((HY.out).below h2_)
  replace HZ := Aside0.mk ((HZ.out).below h2_)
  replace HQ := Aside0.mk (blk_below HQ.out h2_)
  replace HB := Aside0.mk (below_step HB.out h2_)
  clear h2_
  have RA := Aside0.mk r2_
  clear r2_
  clear HX
  go_wp2_with fail
  refine (MYA.out _ HY.out).mono ?_
  rintro e w3_ ⟨v3_, rfl, r3_, h3_⟩
  replace HY := Aside0.mk ((HY.out).below h3_)
  replace HZ := Aside0.mk ((HZ.out).below h3_)
  replace HQ := Aside0.mk (blk_below HQ.out h3_)
  replace RA := Aside0.mk ((RA.out).below h3_)
  replace HB := Aside0.mk (below_step HB.out h3_)
  clear h3_
  have RB := Aside0.mk r3_
  clear r3_
  clear HY
  go_wp2_with fail
  refine (MZA.out _ HZ.out).mono ?_
  rintro e w4_ ⟨v4_, rfl, r4_, h4_⟩
  replace HZ := Aside0.mk ((HZ.out).below h4_)
  replace HQ := Aside0.mk (blk_below HQ.out h4_)
  replace RA := Aside0.mk ((RA.out).below h4_)
  replace RB := Aside0.mk ((RB.out).below h4_)
  replace HB := Aside0.mk (below_step HB.out h4_)
  clear h4_
  have RC := Aside0.mk r4_
  clear r4_
  clear HZ
  have c0_ : w4_.cell? ⟨w.heap.size, 0, none⟩ = some (.int .i64 q0) := (blk_cell HQ.out 0).trans rfl
  have c1_ : w4_.cell? ⟨w.heap.size, 1, none⟩ = some (.int .i64 q1) := (blk_cell HQ.out 1).trans rfl
  go_wp2_with fail
  clear c0_ c1_
  refine (PCA.out _).mono ?_
  rintro e w5_ ⟨rfl, h5_⟩
  replace HQ := Aside0.mk (blk_below HQ.out h5_)
  replace RA := Aside0.mk ((RA.out).below h5_)
  replace RB := Aside0.mk ((RB.out).below h5_)
  replace RC := Aside0.mk ((RC.out).below h5_)
  replace HB := Aside0.mk (below_step HB.out h5_)
  clear h5_
  clear HQ
  go_wp2_with fail
  have hal_ := (Below.refl _ w5_).alloc (Nat.le_refl _) (.cells #[.int .i64 p0, .int .i64 p1] 26)
  replace RA := Aside0.mk ((RA.out).below hal_)
  replace RB := Aside0.mk ((RB.out).below hal_)
  replace RC := Aside0.mk ((RC.out).below hal_)
  replace HB := Aside0.mk (below_step HB.out hal_)
  clear hal_
  have HS := Aside0.mk (blk_new w5_ (.cells #[.int .i64 p0, .int .i64 p1] 26))
  refine (overlayV RA.out RB.out ab 0 AB1.out).mono ?_
  rintro e w6_ ⟨v6_, rfl, r6_, h6_⟩
  replace RA := Aside0.mk ((RA.out).below h6_)
  replace RB := Aside0.mk ((RB.out).below h6_)
  replace RC := Aside0.mk ((RC.out).below h6_)
  replace HS := Aside0.mk (blk_below HS.out h6_)
  replace HB := Aside0.mk (below_step HB.out h6_)
  clear h6_
  have RAB := Aside0.mk r6_
  clear r6_
  go_wp2_with fail
  refine (overlayV RAB.out RC.out abc 0 ABC1.out).mono ?_
  rintro e w7_ ⟨v7_, rfl, r7_, h7_⟩
  replace RA := Aside0.mk ((RA.out).below h7_)
  replace RB := Aside0.mk ((RB.out).below h7_)
  replace RC := Aside0.mk ((RC.out).below h7_)
  replace HS := Aside0.mk (blk_below HS.out h7_)
  replace RAB := Aside0.mk ((RAB.out).below h7_)
  replace HB := Aside0.mk (below_step HB.out h7_)
  clear h7_
  have RABC := Aside0.mk r7_
  clear r7_
  go_wp2_with fail
  refine (overlayV RB.out RC.out bc 0 BC1.out).mono ?_
  rintro e w8_ ⟨v8_, rfl, r8_, h8_⟩
  replace RA := Aside0.mk ((RA.out).below h8_)
  replace RB := Aside0.mk ((RB.out).below h8_)
  replace RC := Aside0.mk ((RC.out).below h8_)
  replace HS := Aside0.mk (blk_below HS.out h8_)
  replace RAB := Aside0.mk ((RAB.out).below h8_)
  replace RABC := Aside0.mk ((RABC.out).below h8_)
  replace HB := Aside0.mk (below_step HB.out h8_)
  clear h8_
  have RBC := Aside0.mk r8_
  clear r8_
  go_wp2_with fail
  refine (overlayV RA.out RBC.out rt 0 RT1.out).mono ?_
  rintro e w9_ ⟨v9_, rfl, r9_, h9_⟩
  replace RA := Aside0.mk ((RA.out).below h9_)
  replace RB := Aside0.mk ((RB.out).below h9_)
  replace RC := Aside0.mk ((RC.out).below h9_)
  replace HS := Aside0.mk (blk_below HS.out h9_)
  replace RAB := Aside0.mk ((RAB.out).below h9_)
  replace RABC := Aside0.mk ((RABC.out).below h9_)
  replace RBC := Aside0.mk ((RBC.out).below h9_)
  replace HB := Aside0.mk (below_step HB.out h9_)
  clear h9_
  have RRT := Aside0.mk r9_
  clear r9_
  go_wp2_with fail
  refine (overlayV RA.out RA.out sf 0 SF1.out).mono ?_
  rintro e w10_ ⟨v10_, rfl, r10_, h10_⟩
  replace RA := Aside0.mk ((RA.out).below h10_)
  replace RB := Aside0.mk ((RB.out).below h10_)
  replace RC := Aside0.mk ((RC.out).below h10_)
  replace HS := Aside0.mk (blk_below HS.out h10_)
  replace RAB := Aside0.mk ((RAB.out).below h10_)
  replace RABC := Aside0.mk ((RABC.out).below h10_)
  replace RBC := Aside0.mk ((RBC.out).below h10_)
  replace RRT := Aside0.mk ((RRT.out).below h10_)
  replace HB := Aside0.mk (below_step HB.out h10_)
  clear h10_
  have RSF := Aside0.mk r10_
  clear r10_
  have c0_ : w10_.cell? ⟨w5_.heap.size, 0, none⟩ = some (.int .i64 p0) := (blk_cell HS.out 0).trans rfl
  have c1_ : w10_.cell? ⟨w5_.heap.size, 1, none⟩ = some (.int .i64 p1) := (blk_cell HS.out 1).trans rfl
  go_wp2_with fail
  clear c0_ c1_
  refine (takeV RA.out p0 p1 ls 0 LS1.out).mono ?_
  rintro e w11_ ⟨v11_, rfl, r11_, h11_⟩
  replace RA := Aside0.mk ((RA.out).below h11_)
  replace RB := Aside0.mk ((RB.out).below h11_)
  replace RC := Aside0.mk ((RC.out).below h11_)
  replace HS := Aside0.mk (blk_below HS.out h11_)
  replace RAB := Aside0.mk ((RAB.out).below h11_)
  replace RABC := Aside0.mk ((RABC.out).below h11_)
  replace RBC := Aside0.mk ((RBC.out).below h11_)
  replace RRT := Aside0.mk ((RRT.out).below h11_)
  replace RSF := Aside0.mk ((RSF.out).below h11_)
  replace HB := Aside0.mk (below_step HB.out h11_)
  clear h11_
  have RLS := Aside0.mk r11_
  clear r11_
  have c0_ : w11_.cell? ⟨w5_.heap.size, 0, none⟩ = some (.int .i64 p0) := (blk_cell HS.out 0).trans rfl
  have c1_ : w11_.cell? ⟨w5_.heap.size, 1, none⟩ = some (.int .i64 p1) := (blk_cell HS.out 1).trans rfl
  go_wp2_with fail
  clear c0_ c1_
  refine (onlyV RA.out p0 p1 pt 0 PT1.out).mono ?_
  rintro e w12_ ⟨v12_, rfl, r12_, h12_⟩
  replace RA := Aside0.mk ((RA.out).below h12_)
  replace RB := Aside0.mk ((RB.out).below h12_)
  replace RC := Aside0.mk ((RC.out).below h12_)
  replace HS := Aside0.mk (blk_below HS.out h12_)
  replace RAB := Aside0.mk ((RAB.out).below h12_)
  replace RABC := Aside0.mk ((RABC.out).below h12_)
  replace RBC := Aside0.mk ((RBC.out).below h12_)
  replace RRT := Aside0.mk ((RRT.out).below h12_)
  replace RSF := Aside0.mk ((RSF.out).below h12_)
  replace RLS := Aside0.mk ((RLS.out).below h12_)
  replace HB := Aside0.mk (below_step HB.out h12_)
  clear h12_
  have RPT := Aside0.mk r12_
  clear r12_
  go_wp2_with fail
  refine (overlayV RLS.out RPT.out bk 0 BK1.out).mono ?_
  rintro e w13_ ⟨v13_, rfl, r13_, h13_⟩
  replace RA := Aside0.mk ((RA.out).below h13_)
  replace RB := Aside0.mk ((RB.out).below h13_)
  replace RC := Aside0.mk ((RC.out).below h13_)
  replace HS := Aside0.mk (blk_below HS.out h13_)
  replace RAB := Aside0.mk ((RAB.out).below h13_)
  replace RABC := Aside0.mk ((RABC.out).below h13_)
  replace RBC := Aside0.mk ((RBC.out).below h13_)
  replace RRT := Aside0.mk ((RRT.out).below h13_)
  replace RSF := Aside0.mk ((RSF.out).below h13_)
  replace RLS := Aside0.mk ((RLS.out).below h13_)
  replace RPT := Aside0.mk ((RPT.out).below h13_)
  replace HB := Aside0.mk (below_step HB.out h13_)
  clear h13_
  have RBK := Aside0.mk r13_
  clear r13_
  go_wp2_with fail
  refine (overlayV RPT.out RLS.out ag 0 AG1.out).mono ?_
  rintro e w14_ ⟨v14_, rfl, r14_, h14_⟩
  replace RA := Aside0.mk ((RA.out).below h14_)
  replace RB := Aside0.mk ((RB.out).below h14_)
  replace RC := Aside0.mk ((RC.out).below h14_)
  replace HS := Aside0.mk (blk_below HS.out h14_)
  replace RAB := Aside0.mk ((RAB.out).below h14_)
  replace RABC := Aside0.mk ((RABC.out).below h14_)
  replace RBC := Aside0.mk ((RBC.out).below h14_)
  replace RRT := Aside0.mk ((RRT.out).below h14_)
  replace RSF := Aside0.mk ((RSF.out).below h14_)
  replace RLS := Aside0.mk ((RLS.out).below h14_)
  replace RPT := Aside0.mk ((RPT.out).below h14_)
  replace RBK := Aside0.mk ((RBK.out).below h14_)
  replace HB := Aside0.mk (below_step HB.out h14_)
  clear h14_
  have RAG := Aside0.mk r14_
  clear r14_
  go_wp2_with fail
  refine (sameV RABC.out RRT.out (valid1000 ABC2.out) true (valid_eq ABC2.out RT2.out (fun n => by rw [ABC3.out n, AB3.out n, RT3.out n, BC3.out n]; (repeat' split) <;> first | rfl | omega))).mono ?_
  rintro e w15_ ⟨rfl, h15_⟩
  replace RA := Aside0.mk ((RA.out).below h15_)
  replace RB := Aside0.mk ((RB.out).below h15_)
  replace RC := Aside0.mk ((RC.out).below h15_)
  replace HS := Aside0.mk (blk_below HS.out h15_)
  replace RAB := Aside0.mk ((RAB.out).below h15_)
  replace RABC := Aside0.mk ((RABC.out).below h15_)
  replace RBC := Aside0.mk ((RBC.out).below h15_)
  replace RRT := Aside0.mk ((RRT.out).below h15_)
  replace RSF := Aside0.mk ((RSF.out).below h15_)
  replace RLS := Aside0.mk ((RLS.out).below h15_)
  replace RPT := Aside0.mk ((RPT.out).below h15_)
  replace RBK := Aside0.mk ((RBK.out).below h15_)
  replace RAG := Aside0.mk ((RAG.out).below h15_)
  replace HB := Aside0.mk (below_step HB.out h15_)
  clear h15_
  go_wp2_with fail
  refine (sameV RSF.out RA.out (valid1000 SF2.out) true (valid_eq SF2.out VA.out (fun n => by rw [SF3.out n]; (repeat' split) <;> first | rfl | omega))).mono ?_
  rintro e w16_ ⟨rfl, h16_⟩
  replace RA := Aside0.mk ((RA.out).below h16_)
  replace RB := Aside0.mk ((RB.out).below h16_)
  replace RC := Aside0.mk ((RC.out).below h16_)
  replace HS := Aside0.mk (blk_below HS.out h16_)
  replace RAB := Aside0.mk ((RAB.out).below h16_)
  replace RABC := Aside0.mk ((RABC.out).below h16_)
  replace RBC := Aside0.mk ((RBC.out).below h16_)
  replace RRT := Aside0.mk ((RRT.out).below h16_)
  replace RSF := Aside0.mk ((RSF.out).below h16_)
  replace RLS := Aside0.mk ((RLS.out).below h16_)
  replace RPT := Aside0.mk ((RPT.out).below h16_)
  replace RBK := Aside0.mk ((RBK.out).below h16_)
  replace RAG := Aside0.mk ((RAG.out).below h16_)
  replace HB := Aside0.mk (below_step HB.out h16_)
  clear h16_
  go_wp2_with fail
  refine (sameV RBK.out RA.out (valid1000 BK2.out) true (valid_eq BK2.out VA.out (fun n => by rw [BK3.out n, LS3.out n, PT3.out n]; (repeat' split) <;> first | rfl | omega))).mono ?_
  rintro e w17_ ⟨rfl, h17_⟩
  replace RA := Aside0.mk ((RA.out).below h17_)
  replace RB := Aside0.mk ((RB.out).below h17_)
  replace RC := Aside0.mk ((RC.out).below h17_)
  replace HS := Aside0.mk (blk_below HS.out h17_)
  replace RAB := Aside0.mk ((RAB.out).below h17_)
  replace RABC := Aside0.mk ((RABC.out).below h17_)
  replace RBC := Aside0.mk ((RBC.out).below h17_)
  replace RRT := Aside0.mk ((RRT.out).below h17_)
  replace RSF := Aside0.mk ((RSF.out).below h17_)
  replace RLS := Aside0.mk ((RLS.out).below h17_)
  replace RPT := Aside0.mk ((RPT.out).below h17_)
  replace RBK := Aside0.mk ((RBK.out).below h17_)
  replace RAG := Aside0.mk ((RAG.out).below h17_)
  replace HB := Aside0.mk (below_step HB.out h17_)
  clear h17_
  go_wp2_with fail
  refine (sameV RAG.out RA.out (valid1000 AG2.out) true (valid_eq AG2.out VA.out (fun n => by rw [AG3.out n, LS3.out n, PT3.out n]; (repeat' split) <;> first | rfl | omega))).mono ?_
  rintro e w18_ ⟨rfl, h18_⟩
  replace RA := Aside0.mk ((RA.out).below h18_)
  replace RB := Aside0.mk ((RB.out).below h18_)
  replace RC := Aside0.mk ((RC.out).below h18_)
  replace HS := Aside0.mk (blk_below HS.out h18_)
  replace RAB := Aside0.mk ((RAB.out).below h18_)
  replace RABC := Aside0.mk ((RABC.out).below h18_)
  replace RBC := Aside0.mk ((RBC.out).below h18_)
  replace RRT := Aside0.mk ((RRT.out).below h18_)
  replace RSF := Aside0.mk ((RSF.out).below h18_)
  replace RLS := Aside0.mk ((RLS.out).below h18_)
  replace RPT := Aside0.mk ((RPT.out).below h18_)
  replace RBK := Aside0.mk ((RBK.out).below h18_)
  replace RAG := Aside0.mk ((RAG.out).below h18_)
  replace HB := Aside0.mk (below_step HB.out h18_)
  clear h18_
  go_wp2_with fail
  go_ret
  exact ⟨rfl, HB.out⟩
end Go.Proofs.Ytdflgjgoikofaaa.Bk

namespace Go.Proofs.Ytdflgjgoikofaaa.Pl
open Go.Proofs.Ytdflgjgoikofaaa.Ref Go.Proofs.Ytdflgjgoikofaaa.Bk

def hD (x y : Int) : Int := if x = y then -1 else 0
theorem hD_ok (x y : Int) (_ : -1 ≤ x) (_ : x ≤ 7) (_ : -1 ≤ y) (_ : y ≤ 7) : -1 ≤ hD x y ∧ hD x y ≤ 7 := by unfold hD; split <;> omega
theorem rd26_last (i : List S53) (b : S53) : rd_T26 ((i ++ [b]).map (·.f0)) ((((i ++ [b]).map (·.f0)).length : Int) - 1) = b.f0 := by
  have e : ((((i ++ [b]).map (·.f0)).length : Int) - 1).toNat = i.length := by simp
  unfold rd_T26
  rw [e, List.getD_eq_getElem?_getD, List.getElem?_map, List.getElem?_append_right (Nat.le_refl _)]
  simp
theorem stepD_law (out : List S53) (p : Pc) (h : ∀ b ∈ out, bC b = 0) : stepD (out.map (·.f0)) p = (stepC hD out p).map (·.f0) ∧ ∀ b ∈ stepC hD out p, bC b = 0 := by
  unfold stepD stepC
  by_cases hxy : p.x = p.y
  · have e : hD p.x p.y = -1 := by unfold hD; rw [if_pos hxy]
    rw [if_pos hxy, if_pos e]
    exact ⟨rfl, h⟩
  · have e : hD p.x p.y = 0 := by unfold hD; rw [if_neg hxy]
    rw [if_neg hxy, e, if_neg (show ¬ ((0 : Int) = -1) by decide)]
    rcases snoc_cases out with rfl | ⟨i, b, rfl⟩
    · have hj : joins [] p.f 0 = false := rfl
      rw [hj]
      refine ⟨rfl, fun b hb => ?_⟩
      simp at hb
      subst hb
      rfl
    · have hb0 := h b (by simp)
      have hl : decide (0 < ((i ++ [b]).map (·.f0)).length) = true := decide_eq_true (by simp)
      have hl2 : decide (0 < (i ++ [b]).length) = true := decide_eq_true (by simp)
      rw [rd26_last, hl, Bool.true_and]
      simp only [joins, lastB_snoc, hl2, Bool.true_and]
      have hc : (bC b == 0) = true := beq_iff_eq.mpr hb0
      rw [hc, Bool.and_true]
      by_cases ht : (bT b == p.f) = true
      · have ht' : (b.f0.f1 == p.f) = true := ht
        rw [if_pos ht', if_pos ht, set_snoc]
        refine ⟨?_, fun c hcm => ?_⟩
        · have e2 : ((i ++ [b]).map (·.f0)) = i.map (·.f0) ++ [b.f0] := by simp
          have e3 : (i.map (·.f0) ++ [b.f0]).length - 1 = (i.map (·.f0)).length := by simp
          rw [e2, e3, List.set_append_right _ _ (Nat.le_refl _)]
          simp
        · rcases List.mem_append.1 hcm with hcm | hcm
          · exact h c (by simp [hcm])
          · simp at hcm; subst hcm; exact hb0
      · have ht' : ¬ (b.f0.f1 == p.f) = true := ht
        rw [if_neg ht', if_neg ht]
        refine ⟨by simp, fun c hcm => ?_⟩
        rcases List.mem_append.1 hcm with hcm | hcm
        · exact h c hcm
        · simp at hcm; subst hcm; rfl
theorem diff_comb (L : List Pc) : diffL L = (combP hD L).map (·.f0) ∧ ∀ b ∈ combP hD L, bC b = 0 := by
  refine fold_snoc_ind (P := fun L => diffL L = (combP hD L).map (·.f0) ∧ ∀ b ∈ combP hD L, bC b = 0) ⟨rfl, fun b hb => by simp [combP] at hb⟩ (fun L p ih => ?_) L
  rw [diffL_snoc, combP_snoc, ih.1]
  exact stepD_law _ p ih.2

/-- Where two maps differ: as a map that zero holds. -/
theorem differ_spec {a b : List S53} (ha : validP a = true) (hb : validP b = true) : ∃ D : List S53, differP a b = (D.map (·.f0), 0) ∧ validFrom b00 D = true ∧ (∀ c ∈ D, bC c = 0) ∧ ∀ n, hold D n = if hold a n = hold b n then -1 else 0 := by
  obtain ⟨p1, p2⟩ := pieces_law a b (validP_from ha) (validP_from hb)
  obtain ⟨y1, y2⟩ := comb_says hD hD_ok a b (validP_from ha) (validP_from hb) _ p1 p2
  obtain ⟨d1, d2⟩ := diff_comb (pieces a b)
  refine ⟨combP hD (pieces a b), by unfold differP; rw [ha, hb]; simp only [Bool.and_self, if_true]; rw [d1], y1, d2, fun n => ?_⟩
  rw [y2 n]
  by_cases hn : 0 ≤ n ∧ n < 100000000
  · rw [if_pos hn]; rfl
  · rw [if_neg hn, hold_out a (validP_from ha) n (by omega), hold_out b (validP_from hb) n (by omega), if_pos rfl]
def differsP (l : List S26) (n : Int) : Bool := l.any (fun r => inP r n)
theorem differs_hold (D : List S53) : ∀ p, validFrom p D = true → ∀ n, differsP (D.map (·.f0)) n = decide (hold D n ≠ -1) := by
  induction D with
  | nil => intro p _ n; simp [differsP, hold_n]
  | cons b D ih =>
    intro p h n
    have hb := validFrom_cons h
    have := ih b hb.2 n
    simp only [differsP, List.map_cons, List.any_cons] at this ⊢
    rw [this, hold_c]
    by_cases hn : bF b ≤ n ∧ n < bT b
    · rw [if_pos hn]
      have e : inP b.f0 n = true := by simp only [inP, Bool.and_eq_true, decide_eq_true_eq]; exact hn
      rw [e, Bool.true_or]
      exact (decide_eq_true (by omega)).symm
    · rw [if_neg hn]
      have e : inP b.f0 n = false := by
        cases hi : inP b.f0 n with
        | false => rfl
        | true => simp only [inP, Bool.and_eq_true, decide_eq_true_eq] at hi; exact absurd hi hn
      rw [e, Bool.false_or]
end Go.Proofs.Ytdflgjgoikofaaa.Pl

set_option linter.unusedVariables false
namespace Go.Proofs.Ytdflgjgoikofaaa.Bk
open Go.RowKit Go.Shelf Go.Proofs.YtdflgjgoikofaaaW.PrintWords Go.Proofs.YtdflgjgoikofaaaW.PrintLast Go.Proofs.YtdflgjgoikofaaaW.PrintMore
open Go.Proofs.Ytdflgjgoikofaaa.Ref Go.Proofs.Ytdflgjgoikofaaa.Pl Go.Proofs.Ytdflgjgoikofaaa.Rg

theorem any_drop (l : List S26) (n : Int) (i : Nat) (hi : i < l.length) : differsP (l.drop i) n = (inP (l.getD i z26) n || differsP (l.drop (i + 1)) n) := by
  rw [List.drop_eq_getElem_cons hi, List.getD_eq_getElem?_getD, List.getElem?_eq_getElem hi]
  rfl
set_option maxHeartbeats 1000000 in
theorem differs_calls (l : List S26) (A : Option Addr) (c : Nat) (n : Int) (w : World) (hl : Kd.C k26 w A l.length l) (hc : l.length ≤ c) (hlen : l.length ≤ 1000000) :
    Calls Try.prog 28 #[.slice A l.length c, .int .i64 n] w fun e w' => e = .returned (.bool (differsP l n)) ∧ Below w.heap.size w w' := by
  have HL := Aside0.mk hl
  have HLEN := Aside0.mk hlen
  clear hl hc hlen
  go_enter Try.func28, Try.ntmps28
  go_wp2_with fail
  go_loopg [5] l.length (fun kq v5 wr => ∃ (i : Nat), v5 = .int .i64 (i : Int) ∧ Aside0 (i + kq = l.length) ∧ Aside0 (differsP l n = differsP (l.drop i) n) ∧ Aside0 (Below w.heap.size w wr))
  case atStart => exact ⟨0, rfl, ⟨by omega⟩, ⟨rfl⟩, ⟨Below.refl _ _⟩⟩
  case round =>
    obtain ⟨i, rfl, HK, HD, HB⟩ := hrel
    by_cases hi : i < l.length
    · have hib : decide ((i : Int) < (l.length : Int)) = true := decide_eq_true (by omega)
      have q1 := eq_true (show (i : Int) < (l.length : Int) by omega)
      have q2 := eq_true (show (0 : Int) ≤ (i : Int) by omega)
      have i9 : i ≤ 1000000 := by have := HLEN.out; omega
      obtain ⟨ad, rfl, c0, c1⟩ := at_T26 (Kd.C_below HL.out HB.out) (i : Int) (by omega) (by omega)
      simp only [Int.toNat_natCast, rd_T26] at c0 c1
      have hs := any_drop l n i hi
      generalize l.getD i z26 = x at c0 c1 hs
      have HS := Aside0.mk hs
      have HI := Aside0.mk hi
      clear hs hi
      go_wp2_with fail
      refine (in_calls x.f0 x.f1 n _).mono ?_
      rintro e w1 ⟨rfl, h1⟩
      have HB1 := Aside0.mk (below_step HB.out h1)
      clear h1 c0 c1
      cases hx : inP ⟨x.f0, x.f1⟩ n with
      | true =>
        have HT := Aside0.mk (show differsP l n = true from HD.out.trans (HS.out.trans (by rw [show inP x n = true from hx]; rfl)))
        go_wp2_with fail
        go_ret
        exact ⟨by rw [HT.out]; rfl, HB1.out⟩
      | false =>
        have HT := Aside0.mk (show differsP l n = differsP (l.drop (i + 1)) n from HD.out.trans (HS.out.trans (by rw [show inP x n = false from hx]; rfl)))
        go_wp2_with fail
        go_roundg (l.length - (i + 1))
        case measure => have := HK.out; have := HI.out; omega
        case rel => exact ⟨i + 1, by go_num, ⟨by have := HK.out; have := HI.out; omega⟩, HT, HB1⟩
    · have hib : decide ((i : Int) < (l.length : Int)) = false := decide_eq_false (by omega)
      have q1 := eq_false (show ¬ (i : Int) < (l.length : Int) by omega)
      have HT := Aside0.mk (show differsP l n = false by rw [HD.out, List.drop_of_length_le (by omega)]; rfl)
      clear hi
      go_wp2_with fail
      go_ret
      exact ⟨by rw [HT.out]; rfl, HB.out⟩
theorem differsV {l : List S26} {v : Value} {w : World} (h : Rw2 w l v) (hlen : l.length ≤ 1000000) (n : Int) (b : Bool) (hr : differsP l n = b) : Calls Try.prog 28 #[v, .int .i64 n] w fun e w' => e = .returned (.bool b) ∧ Below w.heap.size w w' := by
  obtain ⟨A, c, rfl, hc, hC⟩ := h
  exact (differs_calls l A c n w hC hc hlen).mono fun e w' h' => by rw [hr] at h'; exact h'
end Go.Proofs.Ytdflgjgoikofaaa.Bk

namespace Go.Proofs.Ytdflgjgoikofaaa.Pl
open Go.Proofs.Ytdflgjgoikofaaa.Ref Go.Proofs.Ytdflgjgoikofaaa.Bk
theorem op_specG (h : Int → Int → Int) (hh : ∀ x y, -1 ≤ x → x ≤ 7 → -1 ≤ y → y ≤ 7 → -1 ≤ h x y ∧ h x y ≤ 7) (h0 : h (-1) (-1) = -1) (a b : List S53) (ha : validFrom b00 a = true) (hb : validFrom b00 b = true) (G : List Int)
    (hG : ∀ n, h (hold a n) (hold b n) ≠ h (hold a (n - 1)) (hold b (n - 1)) → n ∈ G) (hlen : G.length ≤ 40) :
    ∃ out, fin (combP h (pieces a b)) = (out, 0) ∧ validP out = true ∧ (∀ n, hold out n = h (hold a n) (hold b n)) ∧ Cut out G := by
  obtain ⟨p1, p2⟩ := pieces_law a b ha hb
  obtain ⟨y1, y2⟩ := comb_says h hh a b ha hb _ p1 p2
  have hn : ∀ n, hold (combP h (pieces a b)) n = h (hold a n) (hold b n) := by
    intro n
    rw [y2 n]
    by_cases hn : 0 ≤ n ∧ n < 100000000
    · rw [if_pos hn]
    · rw [if_neg hn, hold_out a ha n (by omega), hold_out b hb n (by omega), h0]
  have hcut : Cut (combP h (pieces a b)) G := by
    intro n hne
    rw [hn, hn] at hne
    exact hG n hne
  have hl := cut_len y1 hcut
  refine ⟨_, by unfold fin; rw [if_pos (by omega)], ?_, hn, hcut⟩
  rw [validP, y1, Bool.and_true]
  exact decide_eq_true (by omega)
end Go.Proofs.Ytdflgjgoikofaaa.Pl

namespace Go.Proofs.Ytdflgjgoikofaaa.Pl
open Go.Proofs.Ytdflgjgoikofaaa.Ref Go.Proofs.Ytdflgjgoikofaaa.Bk
theorem hold_change (l : List S53) : ∀ n, hold l n ≠ hold l (n - 1) → ∃ b ∈ l, n = bF b ∨ n = bT b := by
  induction l with
  | nil => intro n h; exact absurd rfl h
  | cons c l ih =>
    intro n h
    rw [hold_c, hold_c] at h
    by_cases h1 : bF c ≤ n ∧ n < bT c
    · by_cases h2 : bF c ≤ n - 1 ∧ n - 1 < bT c
      · rw [if_pos h1, if_pos h2] at h; exact absurd rfl h
      · exact ⟨c, by simp, .inl (by omega)⟩
    · by_cases h2 : bF c ≤ n - 1 ∧ n - 1 < bT c
      · exact ⟨c, by simp, .inr (by omega)⟩
      · rw [if_neg h1, if_neg h2] at h
        obtain ⟨b, hb, e⟩ := ih n h
        exact ⟨b, by simp [hb], e⟩
theorem end_at (l : List S53) : ∀ p, validFrom p l = true → ∀ b ∈ l, hold l (bT b - 1) = bC b ∧ hold l (bT b) ≠ bC b := by
  induction l with
  | nil => intro p _ b hb; simp at hb
  | cons c l ih =>
    intro p h b hb
    have hc := validFrom_cons h
    rcases List.mem_cons.1 hb with rfl | hb
    · exact ⟨by rw [hold_c, if_pos (by omega)], by rw [hold_c, if_neg (by omega)]; exact hold_second h⟩
    · obtain ⟨i1, i2⟩ := ih c hc.2 b hb
      have hlow := (change_at l c hc.2 b hb).2.2
      have hlt := valid_mem_bounds l c hc.2 (by omega) b hb
      exact ⟨by rw [hold_c, if_neg (by omega)]; exact i1, by rw [hold_c, if_neg (by omega)]; exact i2⟩
end Go.Proofs.Ytdflgjgoikofaaa.Pl

namespace Go.Proofs.Ytdflgjgoikofaaa.Pl
open Go.Proofs.Ytdflgjgoikofaaa.Ref Go.Proofs.Ytdflgjgoikofaaa.Bk
theorem validFrom_take (l : List S53) : ∀ p i, validFrom p l = true → validFrom p (l.take i) = true := by
  induction l with
  | nil => intro p i h; simpa using h
  | cons b l ih =>
    intro p i h
    cases i with
    | zero => rfl
    | succ i =>
      simp only [List.take_succ_cons, validFrom, Bool.and_eq_true] at h ⊢
      exact ⟨h.1, ih b i h.2⟩
/-- The ends of a difference are changes of one of the two maps. -/
theorem ends_cut {a b D : List S53} {E F : List Int} (hE : Cut a E) (hF : Cut b F) (hv : validFrom b00 D = true) (h0 : ∀ c ∈ D, bC c = 0) (hD : ∀ n, hold D n = if hold a n = hold b n then -1 else 0) : ∀ c ∈ D, bF c ∈ E ++ F ∧ bT c ∈ E ++ F := by
  intro c hc
  have hz := h0 c hc
  obtain ⟨s1, s2, _⟩ := change_at D b00 hv c hc
  obtain ⟨t1, t2⟩ := end_at D b00 hv c hc
  rw [hz, hD] at s1 s2 t1 t2
  constructor
  · by_cases h1 : hold a (bF c) = hold a (bF c - 1)
    · by_cases h2 : hold b (bF c) = hold b (bF c - 1)
      · rw [← h1, ← h2] at s2; exact absurd s1 s2
      · exact List.mem_append.2 (.inr (hF _ h2))
    · exact List.mem_append.2 (.inl (hE _ h1))
  · by_cases h1 : hold a (bT c) = hold a (bT c - 1)
    · by_cases h2 : hold b (bT c) = hold b (bT c - 1)
      · rw [h1, h2] at t2; exact absurd t1 t2
      · exact List.mem_append.2 (.inr (hF _ h2))
    · exact List.mem_append.2 (.inl (hE _ h1))
/-- What is held once the first differences are made. -/
def mix (a b P : List S53) (n : Int) : Int := if hold P n = -1 then hold a n else hold b n
theorem mix_cut {a b D : List S53} {E F : List Int} (hE : Cut a E) (hF : Cut b F) (hends : ∀ c ∈ D, bF c ∈ E ++ F ∧ bT c ∈ E ++ F) (i : Nat) : ∀ n, mix a b (D.take i) n ≠ mix a b (D.take i) (n - 1) → n ∈ E ++ F := by
  intro n hne
  by_cases hp : hold (D.take i) n = hold (D.take i) (n - 1)
  · by_cases h1 : hold a n = hold a (n - 1)
    · by_cases h2 : hold b n = hold b (n - 1)
      · exact absurd (by unfold mix; rw [hp, h1, h2]) hne
      · exact List.mem_append.2 (.inr (hF _ h2))
    · exact List.mem_append.2 (.inl (hE _ h1))
  · obtain ⟨c, hc, e⟩ := hold_change _ n hp
    have := hends c (List.mem_of_mem_take hc)
    rcases e with rfl | rfl
    · exact this.1
    · exact this.2
theorem step_made {a b D : List S53} {E F : List Int} (hE : Cut a E) (hF : Cut b F) (hlen : (E ++ F).length ≤ 40) (hb : validP b = true) (hv : validFrom b00 D = true) (h0 : ∀ c ∈ D, bC c = 0)
    (hD : ∀ n, hold D n = if hold a n = hold b n then -1 else 0) (i : Nat) (hi : i < D.length) {now : List S53} (hw : validP now = true) (hn : ∀ n, hold now n = mix a b (D.take i) n) :
    ∃ ls pt nx, takeP now (bF (D.getD i z53)) (bT (D.getD i z53)) = (ls, 0) ∧ onlyR b (bF (D.getD i z53)) (bT (D.getD i z53)) = (pt, 0) ∧ overlayP ls pt = (nx, 0) ∧ validP nx = true ∧ ∀ n, hold nx n = mix a b (D.take (i + 1)) n := by
  have hends := ends_cut hE hF hv h0 hD
  have hr : D.getD i z53 ∈ D := by rw [List.getD_eq_getElem?_getD, List.getElem?_eq_getElem hi]; exact List.getElem_mem hi
  have hsn := take_snoc53 D i hi
  have hvt := validFrom_take D b00 i hv
  have hmix := mix_cut hE hF hends i
  have hmix1 := mix_cut hE hF hends (i + 1)
  have hbd := valid_mem_bounds D b00 hv (by decide) _ hr
  have hrc := h0 _ hr
  have hre := hends _ hr
  generalize D.getD i z53 = r at *
  have hrange : rangeB (bF r) (bT r) = true := by simp only [rangeB, Bool.and_eq_true, decide_eq_true_eq]; omega
  have hone := one_valid (c := 0) hrange (by decide)
  have hlow : ∀ n, bF r ≤ n → n < bT r → hold (D.take i) n = -1 := by
    intro n h1 h2
    have hvs : validFrom b00 (D.take i ++ [r]) = true := by rw [← hsn]; exact validFrom_take D b00 (i + 1) hv
    rw [validFrom_snoc, Bool.and_eq_true, Bool.not_eq_true'] at hvs
    exact hold_high _ b00 hvs.1 n (by have := badB_false hvs.2; omega)
  have hP : ∀ n, hold (D.take (i + 1)) n = if bF r ≤ n ∧ n < bT r then 0 else hold (D.take i) n := by
    intro n
    rw [hsn, hold_snoc _ _ b00 hvt n]
    by_cases h : bF r ≤ n ∧ n < bT r
    · rw [if_pos h, if_pos (hlow n h.1 h.2), if_pos h, hrc]
    · rw [if_neg h, if_neg h]; split
      · rename_i e; exact e.symm
      · rfl
  have hcutn : Cut now (E ++ F) := fun n hne => hmix n (by rw [← hn, ← hn]; exact hne)
  have hin : ∀ n, ((bF r ≤ n ∧ n < bT r) ↔ (bF r ≤ n - 1 ∧ n - 1 < bT r)) ∨ n ∈ E ++ F := by
    intro n
    by_cases h1 : n = bF r
    · exact .inr (h1 ▸ hre.1)
    · by_cases h2 : n = bT r
      · exact .inr (h2 ▸ hre.2)
      · exact .inl (by omega)
  obtain ⟨ls, l1, l2, l3, _⟩ := op_specG awayP away_ok rfl now [⟨⟨bF r, bT r⟩, 0⟩] (validP_from hw) hone (E ++ F) (fun n hne => by
    rcases hin n with h | h
    · refine hcutn n (fun e => hne ?_)
      rw [hold_one, hold_one, e]
      by_cases hx : bF r ≤ n ∧ n < bT r
      · rw [if_pos hx, if_pos (h.1 hx)]
      · rw [if_neg hx, if_neg (fun h' => hx (h.2 h'))]
    · exact h) hlen
  obtain ⟨pt, q1, q2, q3, _⟩ := op_specG onlyP only_ok rfl b [⟨⟨bF r, bT r⟩, 0⟩] (validP_from hb) hone (E ++ F) (fun n hne => by
    rcases hin n with h | h
    · refine List.mem_append.2 (.inr (hF n (fun e => hne ?_)))
      rw [hold_one, hold_one, e]
      by_cases hx : bF r ≤ n ∧ n < bT r
      · rw [if_pos hx, if_pos (h.1 hx)]
      · rw [if_neg hx, if_neg (fun h' => hx (h.2 h'))]
    · exact h) hlen
  have hkey : ∀ n, overP (hold ls n) (hold pt n) = mix a b (D.take (i + 1)) n := by
    intro n
    rw [l3 n, q3 n, hold_one, hn n]
    unfold mix
    rw [hP n]
    by_cases hx : bF r ≤ n ∧ n < bT r
    · have e1 : ∀ z, overP (awayP z 0) (onlyP (hold b n) 0) = hold b n := by
        intro z
        have a1 : awayP z 0 = -1 := if_neg (by decide)
        have a2 : onlyP (hold b n) 0 = hold b n := if_neg (by decide)
        rw [a1, a2]
        unfold overP
        split
        · rename_i e; exact e.symm
        · rfl
      rw [if_pos hx, if_pos hx, if_neg (show ¬ ((0 : Int) = -1) by decide)]
      exact e1 _
    · rw [if_neg hx, if_neg hx]
      unfold overP awayP onlyP
      rw [if_pos rfl, if_pos rfl, if_pos rfl]
  obtain ⟨nx, x1, x2, x3, _⟩ := op_specG overP over_ok rfl ls pt (validP_from l2) (validP_from q2) (E ++ F) (fun n hne => hmix1 n (by rw [← hkey, ← hkey]; exact hne)) hlen
  refine ⟨ls, pt, nx, by rw [takeP, hw, hrange]; exact l1, by rw [onlyR, hb, hrange]; exact q1, by rw [overlayP, l2, q2]; exact x1, x2, fun n => by rw [x3 n, hkey n]⟩
end Go.Proofs.Ytdflgjgoikofaaa.Pl

set_option linter.unusedVariables false
namespace Go.Proofs.Ytdflgjgoikofaaa.Bk
open Go.RowKit Go.Shelf Go.Proofs.YtdflgjgoikofaaaW.PrintWords Go.Proofs.YtdflgjgoikofaaaW.PrintLast Go.Proofs.YtdflgjgoikofaaaW.PrintMore
open Go.Proofs.Ytdflgjgoikofaaa.Ref Go.Proofs.Ytdflgjgoikofaaa.Pl Go.Proofs.Ytdflgjgoikofaaa.Rg
attribute [local go_sem high] run_min_min run_max_max

/-- Where two maps differ, in both directions. -/
theorem differ_pack {a b : List S53} {E F : List Int} (ha : validP a = true) (hb : validP b = true) (hE : Cut a E) (hF : Cut b F) (hlen : (E ++ F).length ≤ 40) :
    ∃ D : List S53, differP a b = (D.map (·.f0), 0) ∧ differP b a = (D.map (·.f0), 0) ∧ validFrom b00 D = true ∧ (∀ c ∈ D, bC c = 0) ∧ (∀ n, hold D n = if hold a n = hold b n then -1 else 0) ∧ D.length ≤ 40 := by
  obtain ⟨D, d1, d2, d3, d4⟩ := differ_spec ha hb
  obtain ⟨D', e1, e2, e3, e4⟩ := differ_spec hb ha
  have hDD : D' = D := valid_ext D' b00 b00 D e2 d2 (fun n => by rw [e4 n, d4 n]; by_cases h : hold a n = hold b n
                                                                 · rw [if_pos h, if_pos h.symm]
                                                                 · rw [if_neg h, if_neg (fun e => h e.symm)])
  subst hDD
  refine ⟨D', d1, e1, d2, d3, d4, ?_⟩
  have hcut : Cut D' (E ++ F) := by
    intro n hne
    by_cases h1 : hold a n = hold a (n - 1)
    · by_cases h2 : hold b n = hold b (n - 1)
      · rw [d4, d4, h1, h2] at hne; exact absurd rfl hne
      · exact List.mem_append.2 (.inr (hF n h2))
    · exact List.mem_append.2 (.inl (hE n h1))
  have := cut_len d2 hcut
  omega
theorem differs_at {a b D : List S53} (hv : validFrom b00 D = true) (hD : ∀ n, hold D n = if hold a n = hold b n then -1 else 0) (n : Int) : differsP (D.map (·.f0)) n = decide (hold a n ≠ hold b n) := by
  rw [differs_hold D b00 hv n, hD n]
  by_cases h : hold a n = hold b n
  · rw [if_pos h, decide_eq_false (by decide), decide_eq_false (fun h2 => h2 h)]
  · rw [if_neg h, decide_eq_true (by decide), decide_eq_true h]
theorem getD_map26 (D : List S53) (i : Nat) : (D.map (·.f0)).getD i z26 = (D.getD i z53).f0 := by
  simp only [List.getD_eq_getElem?_getD, List.getElem?_map]
  cases D[i]? <;> rfl
theorem Rw.idx3 {w : World} {g : Nat} {k0 k1 k2 : Int} (h : w.heap[g]? = some (.cells #[.int .i64 k0, .int .i64 k1, .int .i64 k2] 3 (0, 0))) (i : Nat) (hi : i < 3) : w.cell? ⟨g, i, none⟩ = some (.int .i64 (if i = 0 then k0 else if i = 1 then k1 else k2)) := by
  match i, hi with
  | 0, _ => exact (blk_cell h 0).trans rfl
  | 1, _ => exact (blk_cell h 1).trans rfl
  | 2, _ => exact (blk_cell h 2).trans rfl

set_option maxHeartbeats 8000000 in
set_option maxRecDepth 100000 in
theorem blockDiffers_calls (xs ys zs : List (Int × Int × Int)) (A B C : Option Addr) (ca cb cc : Nat) (wh n : Int) (w : World) (hx : Trip w A xs) (hy : Trip w B ys) (hz : Trip w C zs) (hca : xs.length ≤ ca) (hcb : ys.length ≤ cb) (hcc : zs.length ≤ cc)
    (h0 : I64 wh) (h1 : I64 n) :
    Calls Try.prog 9 #[.slice A xs.length ca, .slice B ys.length cb, .slice C zs.length cc, .int .i64 wh, .int .i64 n] w fun e w' => e = .returned (.bool true) ∧ Below w.heap.size w w' := by
  have HX := Aside0.mk hx
  have HY := Aside0.mk hy
  have HZ := Aside0.mk hz
  have CX := Aside0.mk hca
  have CY := Aside0.mk hcb
  have CZ := Aside0.mk hcc
  have HWH := Aside0.mk h0
  have HNN := Aside0.mk h1
  have HB := Aside0.mk (Below.refl w.heap.size w)
  obtain ⟨kx, hkx⟩ : ∃ k : Nat, k = min xs.length 8 := ⟨_, rfl⟩
  obtain ⟨ky, hky⟩ : ∃ k : Nat, k = min ys.length 8 := ⟨_, rfl⟩
  obtain ⟨kz, hkz⟩ : ∃ k : Nat, k = min zs.length 8 := ⟨_, rfl⟩
  have mx1 : min (xs.length : Int) 8 = (kx : Int) := by omega
  have mx2 := eq_true (show (0 : Int) ≤ (kx : Int) by omega)
  have mx3 := eq_true (show (kx : Int) ≤ (ca : Int) by omega)
  have my1 : min (ys.length : Int) 8 = (ky : Int) := by omega
  have my2 := eq_true (show (0 : Int) ≤ (ky : Int) by omega)
  have my3 := eq_true (show (ky : Int) ≤ (cb : Int) by omega)
  have mz1 : min (zs.length : Int) 8 = (kz : Int) := by omega
  have mz2 := eq_true (show (0 : Int) ≤ (kz : Int) by omega)
  have mz3 := eq_true (show (kz : Int) ≤ (cc : Int) by omega)
  have KX := Aside0.mk hkx
  have KY := Aside0.mk hky
  have KZ := Aside0.mk hkz
  clear hx hy hz hca hcb hcc h0 h1 hkx hky hkz
  obtain ⟨EA, ea_, va_, ca_⟩ := made_spec (xs.take 8) 8 (by rw [List.length_take]; omega) (by omega)
  obtain ⟨EB, eb_, vb_, cb_⟩ := made_spec (ys.take 8) 8 (by rw [List.length_take]; omega) (by omega)
  obtain ⟨EC, ec_, vc_, cc_⟩ := made_spec (zs.take 8) 8 (by rw [List.length_take]; omega) (by omega)
  have MX := fun w' (h : Trip w' A xs) => madeTV h ca CX.out 8 kx (by omega) KX.out
  have MY := fun w' (h : Trip w' B ys) => madeTV h cb CY.out 8 ky (by omega) KY.out
  have MZ := fun w' (h : Trip w' C zs) => madeTV h cc CZ.out 8 kz (by omega) KZ.out
  generalize madeP (xs.take 8) = a at *
  generalize madeP (ys.take 8) = b at *
  generalize madeP (zs.take 8) = c at *
  have VA := Aside0.mk va_
  have VB := Aside0.mk vb_
  have VC := Aside0.mk vc_
  have hEF : (EA ++ EB).length ≤ 40 := by simp only [List.length_append]; omega
  have STEP := Aside0.mk (fun D hv h0 hD => step_made (a := a) (b := b) (D := D) ca_ cb_ hEF vb_ hv h0 hD)
  obtain ⟨D, d1, d2, d3, d4, d5, d6⟩ := differ_pack va_ vb_ ca_ cb_ hEF
  obtain ⟨D2, e1, _, e3, _, e5, e6⟩ := differ_pack vb_ vc_ cb_ cc_ (by simp only [List.length_append]; omega)
  obtain ⟨D3, f1, _, f3, _, f5, f6⟩ := differ_pack va_ vc_ ca_ cc_ (by simp only [List.length_append]; omega)
  have DAB := Aside0.mk d1
  have DBA := Aside0.mk d2
  have DBC := Aside0.mk e1
  have DAC := Aside0.mk f1
  have HD := Aside0.mk (And.intro d3 (And.intro d4 d5))
  have TRI := Aside0.mk (show ∀ k, differsP (D3.map (·.f0)) k = true → differsP (D.map (·.f0)) k = false → differsP (D2.map (·.f0)) k = true by
    intro k
    rw [differs_at f3 f5, differs_at d3 d5, differs_at e3 e5]
    simp only [decide_eq_true_eq, decide_eq_false_iff_not]
    intro h1 h2 h3
    exact h1 ((Classical.not_not.1 h2).trans h3))
  have DL := Aside0.mk d6
  have DL2 := Aside0.mk e6
  have DL3 := Aside0.mk f6
  have MXA := Aside0.mk MX
  have MYA := Aside0.mk MY
  have MZA := Aside0.mk MZ
  have PKA := Aside0.mk (fun w' => pickV n 100000000 w' HNN.out (by omega))
  generalize pickP n 100000000 = k2 at *
  clear ea_ va_ ca_ eb_ vb_ cb_ ec_ vc_ cc_ MX MY MZ hEF d1 d2 d3 d4 d5 d6 e1 e3 e5 e6 f1 f3 f5 f6
  go_enter Try.func9, Try.ntmps9
  go_wp2_with fail
  refine (sane_calls _).mono ?_
  rintro e w1_ ⟨rfl, h1_⟩
  replace HX := Aside0.mk ((HX.out).below h1_)
  replace HY := Aside0.mk ((HY.out).below h1_)
  replace HZ := Aside0.mk ((HZ.out).below h1_)
  replace HB := Aside0.mk (below_step HB.out h1_)
  clear h1_
  go_wp2_with fail
  refine (MXA.out _ HX.out).mono ?_
  rintro e w2_ ⟨v2_, rfl, r2_, h2_⟩
  replace HX := Aside0.mk ((HX.out).below h2_)
  replace HY := Aside0.mk ((HY.out).below h2_)
  replace HZ := Aside0.mk ((HZ.out).below h2_)
  replace HB := Aside0.mk (below_step HB.out h2_)
  clear h2_
  have RA := Aside0.mk r2_
  clear r2_
  clear HX
  go_wp2_with fail
  refine (MYA.out _ HY.out).mono ?_
  rintro e w3_ ⟨v3_, rfl, r3_, h3_⟩
  replace HY := Aside0.mk ((HY.out).below h3_)
  replace HZ := Aside0.mk ((HZ.out).below h3_)
  replace RA := Aside0.mk ((RA.out).below h3_)
  replace HB := Aside0.mk (below_step HB.out h3_)
  clear h3_
  have RB := Aside0.mk r3_
  clear r3_
  clear HY
  go_wp2_with fail
  refine (MZA.out _ HZ.out).mono ?_
  rintro e w4_ ⟨v4_, rfl, r4_, h4_⟩
  replace HZ := Aside0.mk ((HZ.out).below h4_)
  replace RA := Aside0.mk ((RA.out).below h4_)
  replace RB := Aside0.mk ((RB.out).below h4_)
  replace HB := Aside0.mk (below_step HB.out h4_)
  clear h4_
  have RC := Aside0.mk r4_
  clear r4_
  clear HZ
  go_wp2_with fail
  refine (differV RA.out RB.out _ 0 DAB.out).mono ?_
  rintro e w5_ ⟨v5_, rfl, r5_, h5_⟩
  replace RA := Aside0.mk ((RA.out).below h5_)
  replace RB := Aside0.mk ((RB.out).below h5_)
  replace RC := Aside0.mk ((RC.out).below h5_)
  replace HB := Aside0.mk (below_step HB.out h5_)
  clear h5_
  have RAB := Aside0.mk r5_
  clear r5_
  go_wp2_with fail
  refine (differV RB.out RA.out _ 0 DBA.out).mono ?_
  rintro e w6_ ⟨v6_, rfl, r6_, h6_⟩
  replace RA := Aside0.mk ((RA.out).below h6_)
  replace RB := Aside0.mk ((RB.out).below h6_)
  replace RC := Aside0.mk ((RC.out).below h6_)
  replace RAB := Aside0.mk ((RAB.out).below h6_)
  replace HB := Aside0.mk (below_step HB.out h6_)
  clear h6_
  have RBA := Aside0.mk r6_
  clear r6_
  go_wp2_with fail
  refine (differV RB.out RC.out _ 0 DBC.out).mono ?_
  rintro e w7_ ⟨v7_, rfl, r7_, h7_⟩
  replace RA := Aside0.mk ((RA.out).below h7_)
  replace RB := Aside0.mk ((RB.out).below h7_)
  replace RC := Aside0.mk ((RC.out).below h7_)
  replace RAB := Aside0.mk ((RAB.out).below h7_)
  replace RBA := Aside0.mk ((RBA.out).below h7_)
  replace HB := Aside0.mk (below_step HB.out h7_)
  clear h7_
  have RBC := Aside0.mk r7_
  clear r7_
  go_wp2_with fail
  refine (differV RA.out RC.out _ 0 DAC.out).mono ?_
  rintro e w8_ ⟨v8_, rfl, r8_, h8_⟩
  replace RA := Aside0.mk ((RA.out).below h8_)
  replace RB := Aside0.mk ((RB.out).below h8_)
  replace RC := Aside0.mk ((RC.out).below h8_)
  replace RAB := Aside0.mk ((RAB.out).below h8_)
  replace RBA := Aside0.mk ((RBA.out).below h8_)
  replace RBC := Aside0.mk ((RBC.out).below h8_)
  replace HB := Aside0.mk (below_step HB.out h8_)
  clear h8_
  have RAC := Aside0.mk r8_
  clear r8_
  go_wp2_with fail
  refine (same2V RAB.out RBA.out (by rw [List.length_map]; have := DL.out; omega) true ((sameRP_iff _ _).2 rfl)).mono ?_
  rintro e w9_ ⟨rfl, h9_⟩
  replace RA := Aside0.mk ((RA.out).below h9_)
  replace RB := Aside0.mk ((RB.out).below h9_)
  replace RC := Aside0.mk ((RC.out).below h9_)
  replace RAB := Aside0.mk ((RAB.out).below h9_)
  replace RBA := Aside0.mk ((RBA.out).below h9_)
  replace RBC := Aside0.mk ((RBC.out).below h9_)
  replace RAC := Aside0.mk ((RAC.out).below h9_)
  replace HB := Aside0.mk (below_step HB.out h9_)
  clear h9_
  go_wp2_with fail
  refine (nearV RA.out VA.out wh n HWH.out HNN.out).mono ?_
  rintro e w10_ ⟨rfl, h10_⟩
  replace RA := Aside0.mk ((RA.out).below h10_)
  replace RB := Aside0.mk ((RB.out).below h10_)
  replace RC := Aside0.mk ((RC.out).below h10_)
  replace RAB := Aside0.mk ((RAB.out).below h10_)
  replace RBA := Aside0.mk ((RBA.out).below h10_)
  replace RBC := Aside0.mk ((RBC.out).below h10_)
  replace RAC := Aside0.mk ((RAC.out).below h10_)
  replace HB := Aside0.mk (below_step HB.out h10_)
  clear h10_
  go_wp2_with fail
  refine (nearV RC.out VC.out wh n HWH.out HNN.out).mono ?_
  rintro e w11_ ⟨rfl, h11_⟩
  replace RA := Aside0.mk ((RA.out).below h11_)
  replace RB := Aside0.mk ((RB.out).below h11_)
  replace RC := Aside0.mk ((RC.out).below h11_)
  replace RAB := Aside0.mk ((RAB.out).below h11_)
  replace RBA := Aside0.mk ((RBA.out).below h11_)
  replace RBC := Aside0.mk ((RBC.out).below h11_)
  replace RAC := Aside0.mk ((RAC.out).below h11_)
  replace HB := Aside0.mk (below_step HB.out h11_)
  clear h11_
  go_wp2_with fail
  refine (PKA.out _).mono ?_
  rintro e w12_ ⟨rfl, h12_⟩
  replace RA := Aside0.mk ((RA.out).below h12_)
  replace RB := Aside0.mk ((RB.out).below h12_)
  replace RC := Aside0.mk ((RC.out).below h12_)
  replace RAB := Aside0.mk ((RAB.out).below h12_)
  replace RBA := Aside0.mk ((RBA.out).below h12_)
  replace RBC := Aside0.mk ((RBC.out).below h12_)
  replace RAC := Aside0.mk ((RAC.out).below h12_)
  replace HB := Aside0.mk (below_step HB.out h12_)
  clear h12_
  obtain ⟨Ad, cd, hvd, hcd, hCd⟩ := RAB.out
  rw [List.length_map] at hvd hcd hCd
  subst hvd
  have RAD := Aside0.mk hCd
  clear hcd hCd
  generalize nearP a wh n = k0
  generalize nearP c wh n = k1
  go_wp2_with fail
  have hal_ := (Below.refl _ w12_).alloc (Nat.le_refl _) (.cells #[.int .i64 k0, .int .i64 k1, .int .i64 k2] 3)
  replace RA := Aside0.mk ((RA.out).below hal_)
  replace RB := Aside0.mk ((RB.out).below hal_)
  replace RC := Aside0.mk ((RC.out).below hal_)
  replace RAB := Aside0.mk ((RAB.out).below hal_)
  replace RBA := Aside0.mk ((RBA.out).below hal_)
  replace RBC := Aside0.mk ((RBC.out).below hal_)
  replace RAC := Aside0.mk ((RAC.out).below hal_)
  replace RAD := Aside0.mk (Kd.C_below (RAD.out) hal_)
  replace HB := Aside0.mk (below_step HB.out hal_)
  clear hal_
  have HS := Aside0.mk (blk_new w12_ (.cells #[.int .i64 k0, .int .i64 k1, .int .i64 k2] 3))
  generalize w12_.alloc (.cells #[.int .i64 k0, .int .i64 k1, .int .i64 k2] 3) = wl at *
  go_loopg [24, 110] 3 (fun kq v24 v110 wr => ∃ (i : Nat), v110 = .int .i64 (i : Int) ∧ Aside0 (i + kq = 3) ∧ Aside0 (Below wl.heap.size wl wr))
  case atStart => exact ⟨0, rfl, ⟨by omega⟩, ⟨Below.refl _ _⟩⟩
  case round =>
    obtain ⟨i, rfl, HK, HBr⟩ := hrel
    by_cases hi : i < 3
    · have hib : decide ((i : Int) < 3) = true := decide_eq_true (by omega)
      have q1 := eq_true (show (i : Int) < 3 by omega)
      have q2 := eq_true (show (0 : Int) ≤ (i : Int) by omega)
      have c0 : wr.cell? ⟨w12_.heap.size, i, none⟩ = _ := Rw.idx3 (blk_below HS.out HBr.out) i hi
      have HI := Aside0.mk hi
      have i9 : i ≤ 1000 := by omega
      generalize (if i = 0 then k0 else if i = 1 then k1 else k2) = k at c0
      have t3 := TRI.out k
      generalize e3 : differsP (D3.map (·.f0)) k = x3 at t3
      generalize e1 : differsP (D.map (·.f0)) k = x1 at t3
      generalize e2 : differsP (D2.map (·.f0)) k = x2 at t3
      have E3 := Aside0.mk e3
      have E1 := Aside0.mk e1
      have E2 := Aside0.mk e2
      have T3 := Aside0.mk t3
      clear hi e1 e2 e3 t3
      go_wp2_with fail
      refine (differsV (RAC.out.below HBr.out) (by rw [List.length_map]; have := DL3.out; omega) k x3 E3.out).mono ?_
      rintro e y1 ⟨rfl, h1⟩
      replace HBr := Aside0.mk (below_step HBr.out h1)
      clear h1
      cases x3 with
      | false =>
        go_wp2_with fail
        go_roundg (3 - (i + 1))
        case measure => have := HK.out; have := HI.out; omega
        case rel => exact ⟨i + 1, by go_num, ⟨by have := HK.out; have := HI.out; omega⟩, HBr⟩
      | true =>
        go_wp2_with fail
        refine (differsV (RAB.out.below HBr.out) (by rw [List.length_map]; have := DL.out; omega) k x1 E1.out).mono ?_
        rintro e y2 ⟨rfl, h2⟩
        replace HBr := Aside0.mk (below_step HBr.out h2)
        clear h2
        cases x1 with
        | true =>
          go_wp2_with fail
          go_roundg (3 - (i + 1))
          case measure => have := HK.out; have := HI.out; omega
          case rel => exact ⟨i + 1, by go_num, ⟨by have := HK.out; have := HI.out; omega⟩, HBr⟩
        | false =>
          have X2 := Aside0.mk (show differsP (D2.map (·.f0)) k = true from E2.out.trans (by simpa using T3.out))
          go_wp2_with fail
          refine (differsV (RBC.out.below HBr.out) (by rw [List.length_map]; have := DL2.out; omega) k true X2.out).mono ?_
          rintro e y3 ⟨rfl, h3⟩
          replace HBr := Aside0.mk (below_step HBr.out h3)
          clear h3
          go_wp2_with fail
          go_roundg (3 - (i + 1))
          case measure => have := HK.out; have := HI.out; omega
          case rel => exact ⟨i + 1, by go_num, ⟨by have := HK.out; have := HI.out; omega⟩, HBr⟩
    · have hib : decide ((i : Int) < 3) = false := decide_eq_false (by omega)
      have q1 := eq_false (show ¬ (i : Int) < 3 by omega)
      clear hi
      go_wp2_with fail
      go_loopg [25, 26] D.length (fun kq v25 v26 wr => ∃ (i : Nat) (nw : List S53), v26 = .int .i64 (i : Int) ∧ Aside0 (i + kq = D.length) ∧ Aside0 (Rw wr nw v25) ∧ Aside0 (validP nw = true) ∧ Aside0 (∀ n, hold nw n = mix a b (D.take i) n) ∧ Aside0 (Below wl.heap.size wl wr))
      case atStart => exact ⟨0, a, rfl, ⟨by omega⟩, ⟨RA.out.below HBr.out⟩, VA, ⟨fun n => rfl⟩, HBr⟩
      case round =>
        obtain ⟨i, nw, rfl, HK, RN, VN, HN, HB2⟩ := hrel
        by_cases hi : i < D.length
        · have hib : decide ((i : Int) < (D.length : Int)) = true := decide_eq_true (by omega)
          have q1 := eq_true (show (i : Int) < (D.length : Int) by omega)
          have q2 := eq_true (show (0 : Int) ≤ (i : Int) by omega)
          have i9 : i ≤ 1000000 := by have := DL.out; omega
          obtain ⟨ad, hAd, c0, c1⟩ := at_T26 (Kd.C_below RAD.out HB2.out) (i : Int) (by omega) (by omega)
          subst hAd
          simp only [Int.toNat_natCast, rd_T26, getD_map26] at c0 c1
          obtain ⟨ls, pt, nx, s1, s2, s3, s4, s5⟩ := STEP.out D HD.out.1 HD.out.2.1 HD.out.2.2 i hi VN.out HN.out
          generalize D.getD i z53 = r at c0 c1 s1 s2
          have C0 := Aside0.mk c0
          have C1 := Aside0.mk c1
          have S1 := Aside0.mk s1
          have S2 := Aside0.mk s2
          have S3 := Aside0.mk s3
          have S4 := Aside0.mk s4
          have S5 := Aside0.mk s5
          have HI := Aside0.mk hi
          clear hi s1 s2 s3 s4 s5
          go_wp2_with fail
          refine (takeV RN.out r.f0.f0 r.f0.f1 ls 0 S1.out).mono ?_
          rintro e y1 ⟨u1, rfl, R1, h1⟩
          replace HB2 := Aside0.mk (below_step HB2.out h1)
          have d0 := pw_cell_below h1 C0.out
          have d1 := pw_cell_below h1 C1.out
          have RL := Aside0.mk R1
          clear h1 R1 c0 c1
          go_wp2_with fail
          refine (onlyV (RB.out.below HB2.out) r.f0.f0 r.f0.f1 pt 0 S2.out).mono ?_
          rintro e y2 ⟨u2, rfl, R2, h2⟩
          replace HB2 := Aside0.mk (below_step HB2.out h2)
          replace RL := Aside0.mk (RL.out.below h2)
          have RP := Aside0.mk R2
          clear h2 R2 d0 d1
          go_wp2_with fail
          refine (overlayV RL.out RP.out nx 0 S3.out).mono ?_
          rintro e y3 ⟨u3, rfl, R3, h3⟩
          replace HB2 := Aside0.mk (below_step HB2.out h3)
          have RX := Aside0.mk R3
          clear h3 R3
          go_wp2_with fail
          go_roundg (D.length - (i + 1))
          case measure => have := HK.out; have := HI.out; omega
          case rel => exact ⟨i + 1, nx, by go_num, ⟨by have := HK.out; have := HI.out; omega⟩, RX, S4, S5, HB2⟩
        · have hib : decide ((i : Int) < (D.length : Int)) = false := decide_eq_false (by omega)
          have q1 := eq_false (show ¬ (i : Int) < (D.length : Int) by omega)
          have hfin : ∀ n, hold nw n = hold b n := by
            intro n
            have hz := HD.out.2.2 n
            rw [HN.out n, List.take_of_length_le (by omega)]
            unfold mix
            by_cases he : hold a n = hold b n
            · rw [if_pos he] at hz; rw [if_pos hz]; exact he
            · rw [if_neg he] at hz; rw [if_neg (by rw [hz]; decide)]
          have HF := Aside0.mk hfin
          clear hi hfin
          go_wp2_with fail
          refine (sameV RN.out (RB.out.below HB2.out) (valid1000 VN.out) true (valid_eq VN.out VB.out HF.out)).mono ?_
          rintro e y1 ⟨rfl, h1⟩
          replace HB2 := Aside0.mk (below_step HB2.out h1)
          clear h1
          go_wp2_with fail
          go_ret
          exact ⟨rfl, below_step HB.out HB2.out⟩
end Go.Proofs.Ytdflgjgoikofaaa.Bk

namespace Go.Proofs.Ytdflgjgoikofaaa.blockDiffers
open Go.ChangeShapes Go.WideShapes Go.ChangeAt Go.RowKit
open Go.ChangeMaps (open_string shut_string)
set_option linter.unusedVariables false

theorem own : ownKnob Try.prog.godebug = none := by kernel_rfl
theorem laidOut : laidOutB Try.prog = true := by kernel_rfl

set_option maxRecDepth 100000 in
theorem lifted (os : Os) (started : os.Started) (H : Type) (enc : TypeId × Value → H) :
    ReturnsInHanded {} Try.checked os 9 .any (Rows.blockDiffersSpec.pre6 enc Try.prog Try.f9 Rows.blockDiffersRow.domain false) (Rows.blockDiffersSpec.post enc Try.prog Try.f9 false true false false) := by
  refine returnsInHanded_of_change (C := Try.checked) own started (by kernel_rfl) Try.func9
    (ChangeSpec.witness6 (enc := enc) (C := Try.checked) false ⟨#[], #[.slice none 0 0, .slice none 0 0, .slice none 0 0, .int .i64 0, .int .i64 0], []⟩ 8 (by kernel_rfl) (by kernel_rfl) (by kernel_rfl) (by kernel_rfl)) ?_
  intro W base args ds gs before hval0 hW hcnd _
  have hval : ∀ (j : Nat) t v, Try.f9.params[j]? = some t → args[j]? = some v → Value.okWide Try.prog W .any base t v := hval0
  have hW' := hW
  obtain ⟨p, q, hA0, hV, rfl, hfz, hnd⟩ := hW
  have hA : DataW.TrodAll enc Try.prog W 0 (fun _ => true) true Try.f9.params.toList args.toList ds p := hA0
  rw [Try.params9] at hA hval
  obtain ⟨v0, vs0, d0, ds0, p0, q0, hargs, rfl, rfl, h0, r0⟩ := trodAll_cons hA
  obtain ⟨v1, vs1, d1, ds1, p1, q1, rfl, rfl, rfl, h1, r1⟩ := trodAll_cons r0
  obtain ⟨v2, vs2, d2, ds2, p2, q2, rfl, rfl, rfl, h2, r2⟩ := trodAll_cons r1
  obtain ⟨v3, vs3, d3, ds3, p3, q3, rfl, rfl, rfl, h3, r3⟩ := trodAll_cons r2
  obtain ⟨v4, vs4, d4, ds4, p4, q4, rfl, rfl, rfl, h4, r4⟩ := trodAll_cons r3
  obtain ⟨rfl, rfl, rfl⟩ := trodAll_nil r4
  obtain rfl : args = #[v0, v1, v2, v3, v4] := by cases args; simp_all
  obtain ⟨rfl, rfl⟩ := trodVars_none hV
  obtain ⟨a0, len0, cap0, rfl⟩ := okWide_slice Try.underlying22 (hval 0 22 v0 rfl rfl)
  have k0 := h0
  have lt0 : ∀ x ∈ p0, x.block < W.heap.size := by obtain ⟨m, hm⟩ := k0; exact DataW.trod_lt m _ _ _ hm
  obtain ⟨xs0, rfl, c0, l0, w0⟩ : ∃ xs : List (Int × Int × Int), xs.length = len0 ∧ len0 ≤ cap0 ∧ len0 ≤ maxLen ∧ Bk.Trip W a0 xs := by
    obtain ⟨fuel, hf⟩ := h0
    exact Bk.trip_of_trod hf
  obtain ⟨a1, len1, cap1, rfl⟩ := okWide_slice Try.underlying22 (hval 1 22 v1 rfl rfl)
  have k1 := h1
  have lt1 : ∀ x ∈ p1, x.block < W.heap.size := by obtain ⟨m, hm⟩ := k1; exact DataW.trod_lt m _ _ _ hm
  obtain ⟨xs1, rfl, c1, l1, w1⟩ : ∃ xs : List (Int × Int × Int), xs.length = len1 ∧ len1 ≤ cap1 ∧ len1 ≤ maxLen ∧ Bk.Trip W a1 xs := by
    obtain ⟨fuel, hf⟩ := h1
    exact Bk.trip_of_trod hf
  obtain ⟨a2, len2, cap2, rfl⟩ := okWide_slice Try.underlying22 (hval 2 22 v2 rfl rfl)
  have k2 := h2
  have lt2 : ∀ x ∈ p2, x.block < W.heap.size := by obtain ⟨m, hm⟩ := k2; exact DataW.trod_lt m _ _ _ hm
  obtain ⟨xs2, rfl, c2, l2, w2⟩ : ∃ xs : List (Int × Int × Int), xs.length = len2 ∧ len2 ≤ cap2 ∧ len2 ≤ maxLen ∧ Bk.Trip W a2 xs := by
    obtain ⟨fuel, hf⟩ := h2
    exact Bk.trip_of_trod hf
  obtain ⟨a3, rfl, rfl, rfl, w3⟩ := open_int Try.underlying3 (hval 3 3 v3 rfl rfl) h3
  obtain ⟨a4, rfl, rfl, rfl, w4⟩ := open_int Try.underlying3 (hval 4 3 v4 rfl rfl) h4
  clear hA0 hval0
  refine (Bk.blockDiffers_calls xs0 xs1 xs2 a0 a1 a2 cap0 cap1 cap2 a3 a4 W w0 w1 w2 c0 c1 c2 (Bk.I64_of_wf w3) (Bk.I64_of_wf w4)).mono fun e W' ⟨he, bel⟩ => ?_
  subst he
  exact ⟨_, rfl, _, _, _, [], _, [], hW', trodAll_mk1 (shut_bool Try.underlying4 _), (trodAll_cons_mk (Below.trod laidOut (by kernel_rfl) (of_decide_eq_true (by kernel_rfl)) k0 bel lt0) (trodAll_cons_mk (Below.trod laidOut (by kernel_rfl) (of_decide_eq_true (by kernel_rfl)) k1 bel lt1) (trodAll_cons_mk (Below.trod laidOut (by kernel_rfl) (of_decide_eq_true (by kernel_rfl)) k2 bel lt2) (trodAll_cons_mk (shut_int Try.underlying3 w3) (trodAll_cons_mk (shut_int Try.underlying3 w4) trodAll_mk0))))), rfl, bel.frame _, fun h => by cases h⟩

theorem over : Rows.blockDiffersRow.holds Try.pinned (OpenSpec.ofChange Rows.blockDiffersSpec) :=
  OpenClaim.holds_of_wide 9 Try.f9 rfl rfl rfl rfl rfl rfl rfl ⟨rfl, rfl, rfl, rfl, rfl⟩ rfl rfl rfl rfl rfl (by kernel_rfl) Try.func9 (by kernel_rfl)
    (of_decide_eq_true (by kernel_rfl)) (by unfold Func.isWrapper; first | (rw [if_pos (by decide +kernel)]; kernel_rfl) | (rw [if_neg (by decide +kernel)]; exact ⟨rfl, rfl⟩))
    (fun os started H enc _ => lifted os started H enc)

theorem proved : Rows.BlockDiffersSaid := over
#print axioms proved
end Go.Proofs.Ytdflgjgoikofaaa.blockDiffers
