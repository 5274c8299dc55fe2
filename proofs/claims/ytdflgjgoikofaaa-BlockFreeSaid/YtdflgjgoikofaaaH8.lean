/- Proved: the law BlockFree of package block returns true at every input, and changes none; no condition. -/
import Derived.Test.YtdflgjgoikofaaaZ6
import Derived.Test.YtdflgjgoikofaaaZ7
import Derived.Test.YtdflgjgoikofaaaRows
import Derived.WalkKit
import Derived.ProofKit
import Derived.OpenShut
import Derived.ShutString
import Derived.ChangeOld
import Derived.Below
set_option linter.unusedVariables false
set_option linter.unusedSimpArgs false
set_option linter.unusedVariables false
namespace Go.Proofs.Ytdflgjgoikofaaa.Bk
open Go.RowKit Go.Shelf Go.Proofs.YtdflgjgoikofaaaW.PrintWords Go.Proofs.YtdflgjgoikofaaaW.PrintLast Go.Proofs.YtdflgjgoikofaaaW.PrintMore
open Go.Proofs.Ytdflgjgoikofaaa.Ref Go.Proofs.Ytdflgjgoikofaaa.Pl Go.Proofs.Ytdflgjgoikofaaa.Rg

theorem nearV {l : List S53} {v : Value} {w : World} (h : Rw w l v) (hv : validP l = true) (which n : Int) (hw : I64 which) (hn : I64 n) : Calls Try.prog 15 #[v, .int .i64 which, .int .i64 n] w fun e w' => e = .returned (.int .i64 (nearP l which n)) ∧ Below w.heap.size w w' := by
  obtain ⟨A, c, rfl, hc, hC⟩ := h
  exact dialtoneref13_Near.calls 2 A c l which n _ w hC hc (Near_f l which n hv hw hn 2 (by omega))
theorem pickV (c n : Int) (w : World) (hc : I64 c) (hn : 0 < n) : Calls Try.prog 17 #[.int .i64 c, .int .i64 n] w fun e w' => e = .returned (.int .i64 (pickP c n)) ∧ Below w.heap.size w w' :=
  (dialtonelaw13_pick.calls c n _ w (pick_law c n hc hn)).mono fun e w' h => by
    obtain ⟨h1, q, rfl⟩ := h
    exact ⟨h1, pw_below_drewN (Below.refl _ _) q⟩
theorem madeV (xs : List (Int × Int × Int)) (A : Option Addr) (c : Nat) (w : World) (hx : Trip w A xs) (hc : xs.length ≤ c) (hn : xs.length ≤ 9223372036854775807) :
    Calls Try.prog 12 #[.slice A xs.length c] w fun e w' => ∃ v, e = .returned v ∧ Rw w' (madeP xs) v ∧ Below w.heap.size w w' :=
  (made_calls xs A c w hx hc hn).mono fun e w' h => by
    obtain ⟨A', c', rfl, h1, h2, h3⟩ := h
    exact ⟨_, rfl, ⟨A', c', rfl, h2, h1⟩, h3⟩
theorem Trip.below {w w' : World} {A : Option Addr} {xs : List (Int × Int × Int)} (h : Trip w A xs) (hb : Below w.heap.size w w') : Trip w' A xs :=
  ⟨h.1, fun h0 => by
    obtain ⟨ad, rfl, h2⟩ := h.2 h0
    exact ⟨ad, rfl, fun i hi => ⟨pw_cell_below hb (h2 i hi).1, pw_cell_below hb (h2 i hi).2.1, pw_cell_below hb (h2 i hi).2.2⟩⟩⟩

set_option maxHeartbeats 8000000 in
set_option maxRecDepth 100000 in
theorem blockFree_calls (xs : List (Int × Int × Int)) (A : Option Addr) (c : Nat) (which n t btw : Int) (w : World) (hx : Trip w A xs) (hc : xs.length ≤ c) (hl : xs.length ≤ 9223372036854775807) (hwh : I64 which) (hn : I64 n) (ht : I64 t) (hb : I64 btw) :
    Calls Try.prog 10 #[.slice A xs.length c, .int .i64 which, .int .i64 n, .int .i64 t, .int .i64 btw] w fun e w' => e = .returned (.bool true) ∧ Below w.heap.size w w' := by
  have HX := Aside0.mk hx
  have HC := Aside0.mk hc
  have HL := Aside0.mk hl
  have HWH := Aside0.mk hwh
  have HN := Aside0.mk hn
  have HT := Aside0.mk ht
  have HBT := Aside0.mk hb
  clear hx hc hl hwh hn ht hb
  obtain ⟨E, e1, e2, e3⟩ := made_spec12 xs
  have HE1 := Aside0.mk e1
  have HE2 := Aside0.mk e2
  have HE3 := Aside0.mk e3
  clear e1 e2 e3
  go_enter Try.func10, Try.ntmps10
  go_wp2_with fail
  refine (sane_calls _).mono ?_
  rintro e w1 ⟨rfl, h1⟩
  have HB := Aside0.mk h1
  clear h1
  go_wp2_with fail
  refine (madeV xs A c _ (HX.out.below HB.out) HC.out HL.out).mono ?_
  rintro e w2 ⟨v, rfl, r2, h2⟩
  generalize madeP xs = a at *
  have RA := Aside0.mk r2
  replace HB := Aside0.mk (below_step HB.out h2)
  clear h2 r2
  go_wp2_with fail
  refine (nearV RA.out HE2.out which n HWH.out HN.out).mono ?_
  rintro e w3 ⟨rfl, h3⟩
  replace RA := Aside0.mk (RA.out.below h3)
  replace HB := Aside0.mk (below_step HB.out h3)
  clear h3
  generalize nearP a which n = k
  by_cases hk : 0 ≤ k ∧ k ≤ 99999999
  · obtain ⟨k0, k1⟩ := hk
    have b0 : decide (k < 0) = false := decide_eq_false (by omega)
    have b1 : decide (99999999 < k) = false := decide_eq_false (by omega)
    rcases free_spec HE2.out ⟨k0, k1⟩ with ⟨f1, f2⟩ | ⟨m, f1, f2, f3, f4, f5⟩
    · have F1 := Aside0.mk f1
      have hp := pickP_range btw (100000000 - k) (by omega)
      have hh := f2 (k + pickP btw (100000000 - k)) (by omega) (by omega)
      have HP := Aside0.mk hp
      have HH := Aside0.mk hh
      have hpos : 0 < 100000000 - k := by omega
      clear f1 f2 hh
      go_wp2_with fail
      refine (freeV RA.out k 0 false F1.out).mono ?_
      rintro e w4 ⟨rfl, h4⟩
      replace RA := Aside0.mk (RA.out.below h4)
      replace HB := Aside0.mk (below_step HB.out h4)
      clear h4
      go_wp2_with fail
      refine (pickV btw _ _ HBT.out hpos).mono ?_
      rintro e w5 ⟨rfl, h5⟩
      replace RA := Aside0.mk (RA.out.below h5)
      replace HB := Aside0.mk (below_step HB.out h5)
      clear h5
      generalize pickP btw (100000000 - k) = z at *
      go_wp2_with fail
      refine (holderV RA.out _ (hold a (k + z)) (holderL_valid HE2.out _)).mono ?_
      rintro e w6 ⟨rfl, h6⟩
      replace HB := Aside0.mk (below_step HB.out h6)
      clear h6
      have hz : decide (0 ≤ hold a (k + z)) = true := decide_eq_true HH.out
      generalize hold a (k + z) = y at *
      go_wp2_with fail
      go_ret
      exact ⟨rfl, HB.out⟩
    · have F1 := Aside0.mk f1
      have F4 := Aside0.mk f4
      replace f5 := Aside0.mk f5
      have K0 := Aside0.mk (And.intro k0 (And.intro k1 (And.intro f2 f3)))
      have b2 : decide (m < k) = false := decide_eq_false (by omega)
      have b3 : decide (99999999 < m) = false := decide_eq_false (by omega)
      clear f1 f4
      go_wp2_with fail
      refine (freeV RA.out k m true F1.out).mono ?_
      rintro e w4 ⟨rfl, h4⟩
      replace RA := Aside0.mk (RA.out.below h4)
      replace HB := Aside0.mk (below_step HB.out h4)
      clear h4
      go_wp2_with fail
      refine (holderV RA.out m (-1) ((holderL_valid HE2.out _).trans F4.out)).mono ?_
      rintro e w5 ⟨rfl, h5⟩
      replace RA := Aside0.mk (RA.out.below h5)
      replace HB := Aside0.mk (below_step HB.out h5)
      clear h5
      by_cases hkm : k < m
      · have b4 : decide (k < m) = true := decide_eq_true hkm
        have hpos : 0 < m - k := by omega
        have hp := pickP_range btw (m - k) hpos
        have hh := f5.out (k + pickP btw (m - k)) (by omega) (by omega)
        have HH := Aside0.mk hh
        clear hh
        go_wp2_with fail
        refine (pickV btw _ _ HBT.out hpos).mono ?_
        rintro e w6 ⟨rfl, h6⟩
        replace RA := Aside0.mk (RA.out.below h6)
        replace HB := Aside0.mk (below_step HB.out h6)
        clear h6
        generalize pickP btw (m - k) = z at *
        go_wp2_with fail
        refine (holderV RA.out _ (hold a (k + z)) (holderL_valid HE2.out _)).mono ?_
        rintro e wh ⟨rfl, hh6⟩
        replace RA := Aside0.mk (RA.out.below hh6)
        replace HB := Aside0.mk (below_step HB.out hh6)
        clear hh6
        have hz : decide (hold a (k + z) < 0) = false := decide_eq_false (by have := HH.out; omega)
        generalize hold a (k + z) = y at *
        go_wp2_with fail
        refine (pickV t 8 _ HT.out (by omega)).mono ?_
        rintro e w7 ⟨rfl, h7⟩
        replace RA := Aside0.mk (RA.out.below h7)
        replace HB := Aside0.mk (below_step HB.out h7)
        clear h7
        obtain ⟨out, g1, g2, g3, g4⟩ := give_spec HE2.out HE3.out (f := m) (t := m + 1) (c := pickP t 8) (by simp only [rangeB, Bool.and_eq_true, decide_eq_true_eq]; omega) (carr_pick8 t) (by have := HE1.out; omega)
        have hp8 := pickP_range t 8 (by omega)
        generalize pickP t 8 = c8 at *
        have G1 := Aside0.mk g1
        have G2 := Aside0.mk g2
        have hfree := free_spec g2 (n := k) (by have := K0.out; omega)
        have hcase : freeP out k = (0, false) ∨ ∃ j, freeP out k = (j, true) ∧ m < j := by
          rcases hfree with ⟨q1, _⟩ | ⟨j, q1, q2, q3, q4, _⟩
          · exact .inl q1
          · refine .inr ⟨j, q1, ?_⟩
            rw [g3 j] at q4
            by_cases hj : m ≤ j ∧ j < m + 1
            · rw [if_pos hj] at q4; omega
            · rw [if_neg hj] at q4
              by_cases hlt : j < m
              · have := f5.out j q2 hlt; omega
              · omega
        have HCASE := Aside0.mk hcase
        clear g1 g2 g3 g4 hfree hp8 hcase
        go_wp2_with fail
        refine (giveV RA.out m (m + 1) c8 out 0 G1.out).mono ?_
        rintro e w8 ⟨v8, rfl, r8, h8⟩
        have RO := Aside0.mk r8
        replace HB := Aside0.mk (below_step HB.out h8)
        clear r8 h8
        go_wp2_with fail
        rcases HCASE.out with q1 | ⟨j, q1, q2⟩
        · have Q1 := Aside0.mk q1
          clear q1
          refine (freeV RO.out k 0 false Q1.out).mono ?_
          rintro e w9 ⟨rfl, h9⟩
          replace HB := Aside0.mk (below_step HB.out h9)
          clear h9
          go_wp2_with fail
          go_ret
          exact ⟨rfl, HB.out⟩
        · have Q1 := Aside0.mk q1
          have hjb : decide (m < j) = true := decide_eq_true q2
          clear q1 q2
          refine (freeV RO.out k j true Q1.out).mono ?_
          rintro e w9 ⟨rfl, h9⟩
          replace HB := Aside0.mk (below_step HB.out h9)
          clear h9
          go_wp2_with fail
          go_ret
          exact ⟨rfl, HB.out⟩
      · have b4 : decide (k < m) = false := decide_eq_false hkm
        go_wp2_with fail
        refine (pickV t 8 _ HT.out (by omega)).mono ?_
        rintro e w7 ⟨rfl, h7⟩
        replace RA := Aside0.mk (RA.out.below h7)
        replace HB := Aside0.mk (below_step HB.out h7)
        clear h7
        obtain ⟨out, g1, g2, g3, g4⟩ := give_spec HE2.out HE3.out (f := m) (t := m + 1) (c := pickP t 8) (by simp only [rangeB, Bool.and_eq_true, decide_eq_true_eq]; omega) (carr_pick8 t) (by have := HE1.out; omega)
        have hp8 := pickP_range t 8 (by omega)
        generalize pickP t 8 = c8 at *
        have G1 := Aside0.mk g1
        have G2 := Aside0.mk g2
        have hfree := free_spec g2 (n := k) (by have := K0.out; omega)
        have hcase : freeP out k = (0, false) ∨ ∃ j, freeP out k = (j, true) ∧ m < j := by
          rcases hfree with ⟨q1, _⟩ | ⟨j, q1, q2, q3, q4, _⟩
          · exact .inl q1
          · refine .inr ⟨j, q1, ?_⟩
            rw [g3 j] at q4
            by_cases hj : m ≤ j ∧ j < m + 1
            · rw [if_pos hj] at q4; omega
            · rw [if_neg hj] at q4
              by_cases hlt : j < m
              · have := f5.out j q2 hlt; omega
              · omega
        have HCASE := Aside0.mk hcase
        clear g1 g2 g3 g4 hfree hp8 hcase
        go_wp2_with fail
        refine (giveV RA.out m (m + 1) c8 out 0 G1.out).mono ?_
        rintro e w8 ⟨v8, rfl, r8, h8⟩
        have RO := Aside0.mk r8
        replace HB := Aside0.mk (below_step HB.out h8)
        clear r8 h8
        go_wp2_with fail
        rcases HCASE.out with q1 | ⟨j, q1, q2⟩
        · have Q1 := Aside0.mk q1
          clear q1
          refine (freeV RO.out k 0 false Q1.out).mono ?_
          rintro e w9 ⟨rfl, h9⟩
          replace HB := Aside0.mk (below_step HB.out h9)
          clear h9
          go_wp2_with fail
          go_ret
          exact ⟨rfl, HB.out⟩
        · have Q1 := Aside0.mk q1
          have hjb : decide (m < j) = true := decide_eq_true q2
          clear q1 q2
          refine (freeV RO.out k j true Q1.out).mono ?_
          rintro e w9 ⟨rfl, h9⟩
          replace HB := Aside0.mk (below_step HB.out h9)
          clear h9
          go_wp2_with fail
          go_ret
          exact ⟨rfl, HB.out⟩
  · have hf : freeP a k = (0, false) := by unfold freeP; rw [if_neg (fun h => hk ⟨h.2.1, h.2.2⟩)]
    have HF := Aside0.mk hf
    have HK := Aside0.mk hk
    clear hf
    by_cases h0 : k < 0
    · have b0 : decide (k < 0) = true := decide_eq_true h0
      clear hk
      go_wp2_with fail
      refine (freeV RA.out k 0 false HF.out).mono ?_
      rintro e w4 ⟨rfl, h4⟩
      replace HB := Aside0.mk (below_step HB.out h4)
      clear h4
      go_wp2_with fail
      go_ret
      exact ⟨rfl, HB.out⟩
    · have b0 : decide (k < 0) = false := decide_eq_false h0
      have b1 : decide (99999999 < k) = true := decide_eq_true (by omega)
      clear hk h0
      go_wp2_with fail
      refine (freeV RA.out k 0 false HF.out).mono ?_
      rintro e w4 ⟨rfl, h4⟩
      replace HB := Aside0.mk (below_step HB.out h4)
      clear h4
      go_wp2_with fail
      go_ret
      exact ⟨rfl, HB.out⟩
end Go.Proofs.Ytdflgjgoikofaaa.Bk

namespace Go.Proofs.Ytdflgjgoikofaaa.blockFree
open Go.ChangeShapes Go.WideShapes Go.ChangeAt Go.RowKit
open Go.ChangeMaps (open_string shut_string)
set_option linter.unusedVariables false

theorem own : ownKnob Try.prog.godebug = none := by kernel_rfl
theorem laidOut : laidOutB Try.prog = true := by kernel_rfl

set_option maxRecDepth 100000 in
theorem lifted (os : Os) (started : os.Started) (H : Type) (enc : TypeId × Value → H) :
    ReturnsInHanded {} Try.checked os 10 .any (Rows.blockFreeSpec.pre6 enc Try.prog Try.f10 Rows.blockFreeRow.domain false) (Rows.blockFreeSpec.post enc Try.prog Try.f10 false true false false) := by
  refine returnsInHanded_of_change (C := Try.checked) own started (by kernel_rfl) Try.func10
    (ChangeSpec.witness6 (enc := enc) (C := Try.checked) false ⟨#[], #[.slice none 0 0, .int .i64 0, .int .i64 0, .int .i64 0, .int .i64 0], []⟩ 8 (by kernel_rfl) (by kernel_rfl) (by kernel_rfl) (by kernel_rfl)) ?_
  intro W base args ds gs before hval0 hW hcnd _
  have hval : ∀ (j : Nat) t v, Try.f10.params[j]? = some t → args[j]? = some v → Value.okWide Try.prog W .any base t v := hval0
  have hW' := hW
  obtain ⟨p, q, hA0, hV, rfl, hfz, hnd⟩ := hW
  have hA : DataW.TrodAll enc Try.prog W 0 (fun _ => true) true Try.f10.params.toList args.toList ds p := hA0
  rw [Try.params10] at hA hval
  obtain ⟨v0, vs0, d0, ds0, p0, q0, hargs, rfl, rfl, h0, r0⟩ := trodAll_cons hA
  obtain ⟨v1, vs1, d1, ds1, p1, q1, rfl, rfl, rfl, h1, r1⟩ := trodAll_cons r0
  obtain ⟨v2, vs2, d2, ds2, p2, q2, rfl, rfl, rfl, h2, r2⟩ := trodAll_cons r1
  obtain ⟨v3, vs3, d3, ds3, p3, q3, rfl, rfl, rfl, h3, r3⟩ := trodAll_cons r2
  obtain ⟨v4, vs4, d4, ds4, p4, q4, rfl, rfl, rfl, h4, r4⟩ := trodAll_cons r3
  obtain ⟨rfl, rfl, rfl⟩ := trodAll_nil r4
  obtain rfl : args = #[v0, v1, v2, v3, v4] := by cases args; simp_all
  obtain ⟨rfl, rfl⟩ := trodVars_none hV
  obtain ⟨a0, len0, cap0, rfl⟩ := okWide_slice Try.underlying22 (hval 0 22 v0 rfl rfl)
  have k0 := h0
  have lt0 : ∀ x ∈ p0, x.block < W.heap.size := by obtain ⟨m, hm⟩ := k0; exact DataW.trod_lt m _ _ _ hm
  obtain ⟨xs, rfl, c0, l0, w0⟩ : ∃ xs : List (Int × Int × Int), xs.length = len0 ∧ len0 ≤ cap0 ∧ len0 ≤ maxLen ∧ Bk.Trip W a0 xs := by
    obtain ⟨fuel, hf⟩ := h0
    exact Bk.trip_of_trod hf
  obtain ⟨a1, rfl, rfl, rfl, w1⟩ := open_int Try.underlying3 (hval 1 3 v1 rfl rfl) h1
  obtain ⟨a2, rfl, rfl, rfl, w2⟩ := open_int Try.underlying3 (hval 2 3 v2 rfl rfl) h2
  obtain ⟨a3, rfl, rfl, rfl, w3⟩ := open_int Try.underlying3 (hval 3 3 v3 rfl rfl) h3
  obtain ⟨a4, rfl, rfl, rfl, w4⟩ := open_int Try.underlying3 (hval 4 3 v4 rfl rfl) h4
  clear hA0 hval0
  refine (Bk.blockFree_calls xs a0 cap0 a1 a2 a3 a4 W w0 c0 (by unfold maxLen at l0; omega) (Bk.I64_of_wf w1) (Bk.I64_of_wf w2) (Bk.I64_of_wf w3) (Bk.I64_of_wf w4)).mono fun e W' ⟨he, bel⟩ => ?_
  subst he
  exact ⟨_, rfl, _, _, _, [], _, [], hW', trodAll_mk1 (shut_bool Try.underlying4 _), (trodAll_cons_mk (Below.trod laidOut (by kernel_rfl) (of_decide_eq_true (by kernel_rfl)) k0 bel lt0) (trodAll_cons_mk (shut_int Try.underlying3 w1) (trodAll_cons_mk (shut_int Try.underlying3 w2) (trodAll_cons_mk (shut_int Try.underlying3 w3) (trodAll_cons_mk (shut_int Try.underlying3 w4) trodAll_mk0))))), rfl, bel.frame _, fun h => by cases h⟩

theorem over : Rows.blockFreeRow.holds Try.pinned (OpenSpec.ofChange Rows.blockFreeSpec) :=
  OpenClaim.holds_of_wide 10 Try.f10 rfl rfl rfl rfl rfl rfl rfl ⟨rfl, rfl, rfl, rfl, rfl⟩ rfl rfl rfl rfl rfl (by kernel_rfl) Try.func10 (by kernel_rfl)
    (of_decide_eq_true (by kernel_rfl)) (by unfold Func.isWrapper; first | (rw [if_pos (by decide +kernel)]; kernel_rfl) | (rw [if_neg (by decide +kernel)]; exact ⟨rfl, rfl⟩))
    (fun os started H enc _ => lifted os started H enc)

/-- ████ THE STATEMENT ████ -/
theorem proved : Rows.BlockFreeSaid := over
#print axioms proved
end Go.Proofs.Ytdflgjgoikofaaa.blockFree
