/- Proved: the law BetweenSolves of package between returns true at every input, and changes none; no condition. -/
import Derived.Test.YtlokeimfmbgigaaZ7
import Derived.BigQuiet
import Derived.Deep.QuietTactic
import Derived.Test.YtlokeimfmbgigaaRows
import Derived.WalkKit
import Derived.ProofKit
import Derived.OpenShut
import Derived.ShutString
import Derived.ChangeOld
import Derived.Below
set_option linter.unusedVariables false
set_option linter.unusedSimpArgs false
set_option linter.unusedVariables false
namespace Go.Proofs.Ytlokeimfmbgigaa.Bk
open Go.RowKit Go.Shelf Go.Proofs.YtlokeimfmbgigaaW.PrintWords Go.Proofs.YtlokeimfmbgigaaW.PrintLast Go.Proofs.YtlokeimfmbgigaaW.PrintMore
open Go.Proofs.Ytlokeimfmbgigaa.Ref Go.Proofs.Ytlokeimfmbgigaa.Pl Go.Proofs.Ytlokeimfmbgigaa.Qs

set_option maxHeartbeats 4000000 in
set_option maxRecDepth 100000 in
theorem betweenSolves_calls (x : Nums) (v : Value) (by_ : Int) (w : World) (h : Nw w x v) (hby : I64 by_) :
    Calls Try.prog 9 #[v, .int .i64 by_] w fun e w' => e = .returned (.bool true) ∧ Below w.heap.size w w' := by
  obtain ⟨s1, s2, rfl, hX⟩ := Xb.start h
  have HX := Aside0.mk hX
  have HBY := Aside0.mk hby
  have HR := Aside0.mk (hidN_range x.n)
  clear h hX hby
  go_enter Try.func9, Try.ntmps9
  go_wp2_with fail
  refine (sane_calls _).mono ?_
  rintro e w1 ⟨rfl, h1⟩
  replace HX := Aside0.mk (HX.out.below h1)
  clear h1
  have k0 := HX.out.c0
  have k1 := HX.out.c1
  have k2 := HX.out.c2
  have k3 := HX.out.c3
  have f3 := HX.out.f3
  go_wp2_with fail
  have HZ := Aside0.mk HX.out.zero
  generalize w1.setCell ⟨w.heap.size, 3, none⟩ (.int .i64 0) = W1 at *
  clear k0 k1 k2 k3 f3 HX
  refine (made_calls _ _ W1 HZ.out.nw).mono ?_
  rintro e w2 ⟨u2, rfl, r2, h2⟩
  replace HZ := Aside0.mk (HZ.out.below h2)
  have hmz : madeL ⟨x.n, x.hs, x.bs, 0⟩ = baseL x := lessL_zero _
  rw [hmz] at r2
  obtain ⟨AB, kb, cb, rfl, hkb, hY⟩ := r2.box (w0 := w) HZ.out.bel.size
  have HY := Aside0.mk hY
  replace HZ := Aside0.mk (HZ.out.below ((Below.refl _ w2).alloc (Nat.le_refl _) (.cells #[.int .i64 (hidN x.n : Int), .slice AB kb cb] 30)))
  clear hY h2 r2 hmz hkb
  have k0 := HZ.out.c0
  have k1 := HZ.out.c1
  have k2 := HZ.out.c2
  have k3 := HZ.out.c3
  go_wp2_with fail
  refine (hiddenV HZ.out.nw).mono ?_
  rintro e w3 ⟨u3, rfl, r3, h3⟩
  replace HZ := Aside0.mk (HZ.out.below h3)
  replace HY := Aside0.mk (HY.out.below h3)
  obtain ⟨AH, kh, ch, rfl, hkh, _⟩ := r3.form
  have HH := Aside0.mk r3
  have HKH := Aside0.mk (hkh.trans (hidL_len _ _))
  clear hkh
  clear r3 h3 k0 k1 k2 k3
  have k0 := HY.out.c0
  have k1 := HY.out.c1
  go_wp2_with fail
  refine (solveV HY.out.bw (solveL (hidN x.n) (baseL x)) 0 rfl (by rw [base_close]; rfl)).mono ?_
  rintro e w4 ⟨u4, rfl, r4, h4⟩
  replace HZ := Aside0.mk (HZ.out.below h4)
  replace HY := Aside0.mk (HY.out.below h4)
  replace HH := Aside0.mk (HH.out.below h4)
  obtain ⟨AS, ks, cs, rfl, hks, _⟩ := r4.form
  have HS := Aside0.mk r4
  have HKS := Aside0.mk (hks.trans (solveL_len (base_close x)))
  clear hks
  clear r4 h4 k0 k1
  have k0 := HY.out.c0
  have k1 := HY.out.c1
  go_wp2_with fail
  refine (allowedV HY.out.bw HS.out true (solve_allowed (base_close x))).mono ?_
  rintro e w5 ⟨rfl, h5⟩
  have HB := Aside0.mk (below_step HZ.out.bel h5)
  replace HH := Aside0.mk (HH.out.below h5)
  replace HS := Aside0.mk (HS.out.below h5)
  have HLAW := Aside0.mk (fun j (hj : j < hidN x.n) => solves_law x (pickP by_ 50) (pickP_range by_ 50 (by decide)).1 hj)
  have HLE := Aside0.mk (fun j (hj : j < hidN x.n) => solve_le (base_close x) hj)
  have HZE := Aside0.mk (solve_zero (base_close x) (by have := HR.out; omega : 0 < hidN x.n))
  have HTOP := Aside0.mk (fun n => topK_range (hidL_range x.n x.hs) n)
  have HHR := Aside0.mk (hidL_range x.n x.hs)
  have HLH := Aside0.mk (show (hidL x.n x.hs).length = hidN x.n from hidL_len _ _)
  have HLS := Aside0.mk (show (solveL (hidN x.n) (baseL x)).length = hidN x.n from solveL_len (base_close x))
  obtain rfl := HKH.out
  have hks := HKS.out
  subst hks
  clear HKH HKS
  clear h5 k0 k1 HZ HY
  generalize hidL x.n x.hs = hl at *
  generalize solveL (hidN x.n) (baseL x) = sl at *
  generalize hidN x.n = N at *
  obtain ⟨ah, rfl, c0⟩ := HH.out.at (show 0 < hl.length by have := HLH.out; have := HR.out; omega)
  have q0 := eq_true (show (0 : Int) < (N : Int) by have := HR.out; omega)
  have q00 := eq_true (show 0 < N by have := HR.out; omega)
  rw [show ah.add 0 = ah by simp [Addr.add]] at c0
  generalize hl0 : hl.getD 0 0 = h0 at c0
  have HH0 := Aside0.mk hl0
  clear hl0
  go_wp2_with fail
  go_loopg [9, 10] (N + 1) (fun kq v9 v10 wr => ∃ (i : Nat), v10 = .int .i64 (i : Int) ∧ v9 = .int .i64 (topK hl i) ∧ wr = w5 ∧ Aside0 (i + kq = N + 1 ∧ i ≤ N))
  case atStart => exact ⟨0, rfl, by rw [← HH0.out]; rfl, rfl, ⟨by omega, by omega⟩⟩
  case round =>
    obtain ⟨i, rfl, rfl, rfl, HK⟩ := hrel
    have hi9 : i + 1 ≤ 9 := by have := HK.out; have := HR.out; omega
    clear c0 q0 q00
    by_cases hi : i < N
    · have q1 := eq_true hi
      have q2 := eq_true (show (i : Int) < (N : Int) by omega)
      have q3 := eq_true (show (0 : Int) ≤ (i : Int) by omega)
      obtain ⟨ad, e, c1⟩ := HH.out.at (show i < hl.length by have := HLH.out; omega)
      obtain rfl : ah = ad := by injection e
      have HI := Aside0.mk hi
      have htk : topK hl (i + 1) = max (topK hl i) (hl.getD i 0) := rfl
      generalize hl.getD i 0 = hi' at c1 htk
      have HTK := Aside0.mk htk
      generalize htp : topK hl i = tp at *
      clear hi htk htp e
      go_wp2_with fail
      all_goals
        go_roundg (N - i)
        case measure => have := HK.out; have := HI.out; omega
        case rel => exact ⟨i + 1, by go_num, by rw [HTK.out]; congr 1; omega, rfl, ⟨by have := HK.out; have := HI.out; omega, by have := HI.out; omega⟩⟩
    · have hiN : i = N := by have := HK.out; omega
      have q1 := eq_false hi
      have q2 := eq_false (show ¬ (i : Int) < (N : Int) by omega)
      subst hiN
      have HTT := Aside0.mk (HTOP.out i)
      have HLAW' := HLAW
      have e0 : ((i : Int) == 0) = false := beq_eq_false_iff_ne.mpr (by have := HR.out; omega)
      have e1 : (i == 0) = false := beq_eq_false_iff_ne.mpr (by have := HR.out; omega)
      generalize htp : topK hl i = tp at *
      clear hi htp
      go_wp2_with fail
      obtain ⟨wo, rfl⟩ : ∃ wo : World, wo = wr := ⟨_, rfl⟩
      clear q1 q2 e0 e1
      go_loopg [11, 12] (i + 1) (fun kq v11 v12 wq => ∃ (j : Nat), v12 = .int .i64 (j : Int) ∧ v11 = .bool (zeroK sl j) ∧ Aside0 (j + kq = i + 1 ∧ j ≤ i) ∧ Aside0 (Below wo.heap.size wo wq))
      case atStart => exact ⟨0, rfl, rfl, ⟨by omega, by omega⟩, ⟨Below.refl _ _⟩⟩
      case round =>
        obtain ⟨j, rfl, rfl, HJ, HQ⟩ := hrel
        have hj9 : j + 1 ≤ 9 := by have := HJ.out; have := HR.out; omega
        by_cases hj : j < i
        · have q1 := eq_true hj
          have q2 := eq_true (show (j : Int) < (i : Int) by omega)
          have q3 := eq_true (show (0 : Int) ≤ (j : Int) by omega)
          obtain ⟨aS, rfl, d0⟩ := (HS.out.below HQ.out).at (show j < sl.length by have := HLS.out; omega)
          obtain ⟨ad, e, c1⟩ := (HH.out.below HQ.out).at (show j < hl.length by have := HLH.out; omega)
          obtain rfl : ah = ad := by injection e
          have HJI := Aside0.mk hj
          have hle := HLE.out j hj
          have hlaw := HLAW.out j hj
          have hhr := HHR.out j
          have hpr := pickP_range by_ 50 (by decide)
          have hzk : zeroK sl (j + 1) = (zeroK sl j || sl.getD j 0 == 0) := rfl
          have htt := HTT.out
          generalize sl.getD j 0 = sj at *
          generalize hl.getD j 0 = hj' at *
          obtain ⟨p, hp⟩ : ∃ p, pickP by_ 50 = p := ⟨_, rfl⟩
          rw [hp] at hlaw hpr
          have HP := Aside0.mk hp
          have g1 : decide (0 < sj) = false := decide_eq_false (by omega)
          have g2 : IntKind.i64.wrap (hj' - tp) = hj' - tp := IntWalk.i64_in _ (by omega)
          have g3 : IntKind.i64.wrap (hj' - tp - p) = hj' - tp - p := IntWalk.i64_in _ (by omega)
          have g4 : decide (sj < hj' - tp - p) = false := decide_eq_false (by omega)
          have g5 := eq_false (show ¬ 0 < sj by omega)
          have g6 := eq_false (show ¬ sj < hj' - tp - p by omega)
          have HZK := Aside0.mk hzk
          clear hj e hle hlaw hhr hpr hzk hp htt
          cases hz : zeroK sl j with
          | false =>
            have HZ0 := Aside0.mk (show zeroK sl (j + 1) = (sj == 0) by rw [HZK.out, hz]; rfl)
            clear hz
            go_upto_region 19 with (fail)
            go_quiet (first | (go_at_call 13; exact Calls.quiet_of_same (pickL1 by_ 50 p _ HBY.out (by decide) HP.out)))
            go_wp2_with fail
            go_roundg (i - j)
            case measure => have := HJ.out; have := HJI.out; omega
            case rel => exact ⟨j + 1, by go_num, by rw [HZ0.out], ⟨by have := HJ.out; have := HJI.out; omega, by have := HJI.out; omega⟩, ⟨by first | exact below_drew HQ.out | exact pw_below_drewN HQ.out _ | exact HQ.out⟩⟩
          | true =>
            have HZ0 := Aside0.mk (show zeroK sl (j + 1) = true by rw [HZK.out, hz]; rfl)
            clear hz
            go_upto_region 19 with (fail)
            go_quiet (first | (go_at_call 13; exact Calls.quiet_of_same (pickL1 by_ 50 p _ HBY.out (by decide) HP.out)))
            go_wp2_with fail
            go_roundg (i - j)
            case measure => have := HJ.out; have := HJI.out; omega
            case rel => exact ⟨j + 1, by go_num, by rw [HZ0.out], ⟨by have := HJ.out; have := HJI.out; omega, by have := HJI.out; omega⟩, ⟨by first | exact below_drew HQ.out | exact pw_below_drewN HQ.out _ | exact HQ.out⟩⟩
        · have hji : j = i := by have := HJ.out; omega
          have q1 := eq_false hj
          have q2 := eq_false (show ¬ (j : Int) < (i : Int) by omega)
          have hzt : zeroK sl j = true := by obtain ⟨k, hk, e⟩ := HZE.out; rw [hji]; exact zeroK_at hk e
          have HF := Aside0.mk (below_step HB.out HQ.out)
          rw [hzt]
          clear hj hji hzt
          go_wp2_with fail
          go_ret
          exact ⟨rfl, HF.out⟩
end Go.Proofs.Ytlokeimfmbgigaa.Bk

namespace Go.Proofs.Ytlokeimfmbgigaa.betweenSolves
open Go.ChangeShapes Go.WideShapes Go.ChangeAt Go.RowKit
open Go.ChangeMaps (open_string shut_string)
set_option linter.unusedVariables false

theorem own : ownKnob Try.prog.godebug = none := by kernel_rfl
theorem laidOut : laidOutB Try.prog = true := by kernel_rfl

set_option maxRecDepth 100000 in
theorem lifted (os : Os) (started : os.Started) (H : Type) (enc : TypeId × Value → H) :
    ReturnsInHanded {} Try.checked os 9 .any (Rows.betweenSolvesSpec.pre6 enc Try.prog Try.f9 Rows.betweenSolvesRow.domain false) (Rows.betweenSolvesSpec.post enc Try.prog Try.f9 false true false false) := by
  refine returnsInHanded_of_change (C := Try.checked) own started (by kernel_rfl) Try.func9
    (ChangeSpec.witness6 (enc := enc) (C := Try.checked) false ⟨#[], #[.agg #[.int .i64 0, .slice none 0 0, .slice none 0 0, .int .i64 0], .int .i64 0], []⟩ 8 (by kernel_rfl) (by kernel_rfl) (by kernel_rfl) (by kernel_rfl)) ?_
  intro W base args ds gs before hval0 hW hcnd _
  have hval : ∀ (j : Nat) t v, Try.f9.params[j]? = some t → args[j]? = some v → Value.okWide Try.prog W .any base t v := hval0
  have hW' := hW
  obtain ⟨p, q, hA0, hV, rfl, hfz, hnd⟩ := hW
  have hA : DataW.TrodAll enc Try.prog W 0 (fun _ => true) true Try.f9.params.toList args.toList ds p := hA0
  rw [Try.params9] at hA hval
  obtain ⟨v0, vs0, d0, ds0, p0, q0, hargs, rfl, rfl, h0, r0⟩ := trodAll_cons hA
  obtain ⟨v1, vs1, d1, ds1, p1, q1, rfl, rfl, rfl, h1, r1⟩ := trodAll_cons r0
  obtain ⟨rfl, rfl, rfl⟩ := trodAll_nil r1
  obtain rfl : args = #[v0, v1] := by cases args; simp_all
  obtain ⟨rfl, rfl⟩ := trodVars_none hV
  have k0 := h0
  have lt0 : ∀ x ∈ p0, x.block < W.heap.size := by obtain ⟨m, hm⟩ := k0; exact DataW.trod_lt m _ _ _ hm
  obtain ⟨x0, w0⟩ := Bk.open_nums (hval 0 25 v0 rfl rfl) h0
  obtain ⟨a1, rfl, rfl, rfl, w1⟩ := open_int Try.underlying3 (hval 1 3 v1 rfl rfl) h1
  clear hA0 hval0
  refine (Bk.betweenSolves_calls x0 v0 a1 W w0 (Bk.I64_of_wf w1)).mono fun e W' ⟨he, bel⟩ => ?_
  subst he
  exact ⟨_, rfl, _, _, _, [], _, [], hW', trodAll_mk1 (shut_bool Try.underlying4 _), (trodAll_cons_mk (Below.trod laidOut (by kernel_rfl) (of_decide_eq_true (by kernel_rfl)) k0 bel lt0) (trodAll_cons_mk (shut_int Try.underlying3 w1) trodAll_mk0)), rfl, bel.frame _, fun h => by cases h⟩

theorem over : Rows.betweenSolvesRow.holds Try.pinned (OpenSpec.ofChange Rows.betweenSolvesSpec) :=
  OpenClaim.holds_of_wide 9 Try.f9 rfl rfl rfl rfl rfl rfl rfl ⟨rfl, rfl, rfl, rfl, rfl⟩ rfl rfl rfl rfl rfl (by kernel_rfl) Try.func9 (by kernel_rfl)
    (of_decide_eq_true (by kernel_rfl)) (by unfold Func.isWrapper; first | (rw [if_pos (by decide +kernel)]; kernel_rfl) | (rw [if_neg (by decide +kernel)]; exact ⟨rfl, rfl⟩))
    (fun os started H enc _ => lifted os started H enc)

theorem proved : Rows.BetweenSolvesSaid := over
#print axioms proved
end Go.Proofs.Ytlokeimfmbgigaa.betweenSolves
