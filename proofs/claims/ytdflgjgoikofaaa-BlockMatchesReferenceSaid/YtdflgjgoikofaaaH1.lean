/- Proved: the law BlockMatchesReference of package block returns true at every input, and changes none; no condition. -/
import Derived.Test.YtdflgjgoikofaaaZ6
import Derived.Test.YtdflgjgoikofaaaZ5
import Derived.Test.YtdflgjgoikofaaaZ3
import Derived.IntWalk
import Derived.Test.YtdflgjgoikofaaaZ7
import Derived.Test.YtdflgjgoikofaaaRows
import Derived.WalkKit
import Derived.ProofKit
import Derived.OpenShut
import Derived.ShutString
import Derived.ChangeOld
import Derived.Below
set_option linter.unusedVariables false
set_option linter.unusedSimpArgs false
namespace Go.Proofs.Ytdflgjgoikofaaa.Pl
open Go.Proofs.Ytdflgjgoikofaaa.Ref Go.Proofs.Ytdflgjgoikofaaa.Bk

def hD (x y : Int) : Int := if x = y then -1 else 0
theorem hD_ok (x y : Int) (_ : -1 ≤ x) (_ : x ≤ 7) (_ : -1 ≤ y) (_ : y ≤ 7) : -1 ≤ hD x y ∧ hD x y ≤ 7 := by unfold hD; split <;> omega
theorem rd26_last (i : List S53) (b : S53) : rd_T26 ((i ++ [b]).map (·.f0)) ((((i ++ [b]).map (·.f0)).length : Int) - 1) = b.f0 := by
  have e : ((((i ++ [b]).map (·.f0)).length : Int) - 1).toNat = i.length := by simp
  unfold rd_T26
  rw [e, List.getD_eq_getElem?_getD, List.getElem?_map, List.getElem?_append_right (Nat.le_refl _)]
  simp
theorem stepD_law (out : List S53) (p : Pc) (h : ∀ b ∈ out, bC b = 0) : stepD (out.map (·.f0)) p = (stepC hD out p).map (·.f0) ∧ ∀ b ∈ stepC hD out p, bC b = 0 := by
  unfold stepD stepC
  by_cases hxy : p.x = p.y
  · have e : hD p.x p.y = -1 := by unfold hD; rw [if_pos hxy]
    rw [if_pos hxy, if_pos e]
    exact ⟨rfl, h⟩
  · have e : hD p.x p.y = 0 := by unfold hD; rw [if_neg hxy]
    rw [if_neg hxy, e, if_neg (show ¬ ((0 : Int) = -1) by decide)]
    rcases snoc_cases out with rfl | ⟨i, b, rfl⟩
    · have hj : joins [] p.f 0 = false := rfl
      rw [hj]
      refine ⟨rfl, fun b hb => ?_⟩
      simp at hb
      subst hb
      rfl
    · have hb0 := h b (by simp)
      have hl : decide (0 < ((i ++ [b]).map (·.f0)).length) = true := decide_eq_true (by simp)
      have hl2 : decide (0 < (i ++ [b]).length) = true := decide_eq_true (by simp)
      rw [rd26_last, hl, Bool.true_and]
      simp only [joins, lastB_snoc, hl2, Bool.true_and]
      have hc : (bC b == 0) = true := beq_iff_eq.mpr hb0
      rw [hc, Bool.and_true]
      by_cases ht : (bT b == p.f) = true
      · have ht' : (b.f0.f1 == p.f) = true := ht
        rw [if_pos ht', if_pos ht, set_snoc]
        refine ⟨?_, fun c hcm => ?_⟩
        · have e2 : ((i ++ [b]).map (·.f0)) = i.map (·.f0) ++ [b.f0] := by simp
          have e3 : (i.map (·.f0) ++ [b.f0]).length - 1 = (i.map (·.f0)).length := by simp
          rw [e2, e3, List.set_append_right _ _ (Nat.le_refl _)]
          simp
        · rcases List.mem_append.1 hcm with hcm | hcm
          · exact h c (by simp [hcm])
          · simp at hcm; subst hcm; exact hb0
      · have ht' : ¬ (b.f0.f1 == p.f) = true := ht
        rw [if_neg ht', if_neg ht]
        refine ⟨by simp, fun c hcm => ?_⟩
        rcases List.mem_append.1 hcm with hcm | hcm
        · exact h c hcm
        · simp at hcm; subst hcm; rfl
theorem diff_comb (L : List Pc) : diffL L = (combP hD L).map (·.f0) ∧ ∀ b ∈ combP hD L, bC b = 0 := by
  refine fold_snoc_ind (P := fun L => diffL L = (combP hD L).map (·.f0) ∧ ∀ b ∈ combP hD L, bC b = 0) ⟨rfl, fun b hb => by simp [combP] at hb⟩ (fun L p ih => ?_) L
  rw [diffL_snoc, combP_snoc, ih.1]
  exact stepD_law _ p ih.2

/-- Where two maps differ: as a map that zero holds. -/
theorem differ_spec {a b : List S53} (ha : validP a = true) (hb : validP b = true) : ∃ D : List S53, differP a b = (D.map (·.f0), 0) ∧ validFrom b00 D = true ∧ (∀ c ∈ D, bC c = 0) ∧ ∀ n, hold D n = if hold a n = hold b n then -1 else 0 := by
  obtain ⟨p1, p2⟩ := pieces_law a b (validP_from ha) (validP_from hb)
  obtain ⟨y1, y2⟩ := comb_says hD hD_ok a b (validP_from ha) (validP_from hb) _ p1 p2
  obtain ⟨d1, d2⟩ := diff_comb (pieces a b)
  refine ⟨combP hD (pieces a b), by unfold differP; rw [ha, hb]; simp only [Bool.and_self, if_true]; rw [d1], y1, d2, fun n => ?_⟩
  rw [y2 n]
  by_cases hn : 0 ≤ n ∧ n < 100000000
  · rw [if_pos hn]; rfl
  · rw [if_neg hn, hold_out a (validP_from ha) n (by omega), hold_out b (validP_from hb) n (by omega), if_pos rfl]
def differsP (l : List S26) (n : Int) : Bool := l.any (fun r => inP r n)
theorem differs_hold (D : List S53) : ∀ p, validFrom p D = true → ∀ n, differsP (D.map (·.f0)) n = decide (hold D n ≠ -1) := by
  induction D with
  | nil => intro p _ n; simp [differsP, hold_n]
  | cons b D ih =>
    intro p h n
    have hb := validFrom_cons h
    have := ih b hb.2 n
    simp only [differsP, List.map_cons, List.any_cons] at this ⊢
    rw [this, hold_c]
    by_cases hn : bF b ≤ n ∧ n < bT b
    · rw [if_pos hn]
      have e : inP b.f0 n = true := by simp only [inP, Bool.and_eq_true, decide_eq_true_eq]; exact hn
      rw [e, Bool.true_or]
      exact (decide_eq_true (by omega)).symm
    · rw [if_neg hn]
      have e : inP b.f0 n = false := by
        cases hi : inP b.f0 n with
        | false => rfl
        | true => simp only [inP, Bool.and_eq_true, decide_eq_true_eq] at hi; exact absurd hi hn
      rw [e, Bool.false_or]
end Go.Proofs.Ytdflgjgoikofaaa.Pl

namespace Go.Proofs.Ytdflgjgoikofaaa.Bk
open Go.RowKit Go.Shelf Go.Proofs.YtdflgjgoikofaaaW.PrintWords Go.Proofs.YtdflgjgoikofaaaW.PrintLast Go.Proofs.YtdflgjgoikofaaaW.PrintMore
open Go.Proofs.Ytdflgjgoikofaaa.Ref Go.Proofs.Ytdflgjgoikofaaa.Pl Go.Proofs.Ytdflgjgoikofaaa.Rg
attribute [local go_sem high] run_min_min run_max_max

def differRR (a b : List S53) : List S26 × Int := if validP a && validP b then (diffL (cellsE a b (edgesP a b)), 0) else ([], 130)
theorem app_below2 {w1 wr w4 : World} (hB : Below w1.heap.size w1 wr) {v : Value} {m : Nat} {xs : List Value} (hown : wr.ownsRow w1.heap.size 26 2 v m xs) {q : Nat} {o : Obj} (hg : ((wr.drewN q).alloc o).grownBy w4 v.ownBlock) : Below w1.heap.size w1 w4 :=
  ((pw_below_drewN hB q).alloc hB.size o).grown hg (by have := hB.size; simp; omega) (fun k hk => own_base hown k hk)
theorem below_q {w w' : World} (h : ∃ q, w' = w.drewN q) : Below w.heap.size w w' := by
  obtain ⟨q, rfl⟩ := h
  exact pw_below_drewN (Below.refl _ _) q
theorem holder_at (l : List S53) (A : Option Addr) (c : Nat) (n : Int) (wr w : World) (hl : Kd.C k53 wr A l.length l) (hc : l.length ≤ c) (h100 : l.length ≤ 100) (hq : ∃ q, w = wr.drewN q) :
    Calls Try.prog 64 #[.slice A l.length c, .int .i64 n] w fun e w' => e = .returned (.int .i64 (hold l n)) ∧ ∃ q, w' = wr.drewN q :=
  (holder_calls l A c n w (Kd.C_below hl (below_q hq)) hc h100).mono fun e w' h => ⟨h.1, by
    obtain ⟨q, rfl⟩ := hq
    obtain ⟨m, hm⟩ := h.2
    exact ⟨q + m, by rw [hm, World.drewN_drewN]⟩⟩

set_option maxHeartbeats 8000000 in
set_option maxRecDepth 100000 in
theorem differR_calls (a b : List S53) (A B : Option Addr) (ca cb : Nat) (w0 : World) (ha : Kd.C k53 w0 A a.length a) (hb : Kd.C k53 w0 B b.length b) (hca : a.length ≤ ca) (hcb : b.length ≤ cb)
    (la : a.length ≤ 100) (lb : b.length ≤ 100) :
    Calls Try.prog 45 #[.slice A a.length ca, .slice B b.length cb] w0 (RangesRes (differRR a b) w0) := by
  have HA := Aside0.mk ha
  have HB := Aside0.mk hb
  have HCA := Aside0.mk hca
  have HCB := Aside0.mk hcb
  have HLA := Aside0.mk la
  have HLB := Aside0.mk lb
  clear ha hb hca hcb la lb
  cases hv : validP a with
  | false =>
    have e1 : differRR a b = ([], 130) := by simp only [differRR, hv, Bool.false_and]; rfl
    rw [e1]
    clear e1
    go_enter Try.func45, Try.ntmps45
    go_wp2_with fail
    refine (validR_calls a A ca _ HA.out HCA.out (by have := HLA.out; omega)).mono ?_
    rintro e w1 ⟨rfl, h1⟩
    have H1 := Aside0.mk h1
    clear h1
    rw [hv]
    clear hv
    go_wp2_with fail
    go_ret2
    exact ⟨_, rfl, Kd.R_nil _ _ _ _ _, H1.out⟩
  | true =>
    cases hv2 : validP b with
    | false =>
      have e1 : differRR a b = ([], 130) := by simp only [differRR, hv2, Bool.and_false]; rfl
      rw [e1]
      clear e1
      go_enter Try.func45, Try.ntmps45
      go_wp2_with fail
      refine (validR_calls a A ca _ HA.out HCA.out (by have := HLA.out; omega)).mono ?_
      rintro e w1 ⟨rfl, h1⟩
      have H1 := Aside0.mk h1
      clear h1
      rw [hv]
      clear hv
      go_wp2_with fail
      refine (validR_calls b B cb w1 (Kd.C_below HB.out H1.out) HCB.out (by have := HLB.out; omega)).mono ?_
      rintro e w2 ⟨rfl, h2⟩
      have H2 := Aside0.mk (below_step H1.out h2)
      clear h2
      rw [hv2]
      clear hv2
      go_wp2_with fail
      go_ret2
      exact ⟨_, rfl, Kd.R_nil _ _ _ _ _, H2.out⟩
    | true =>
      have hRC : differRR a b = (diffL (cellsE a b (edgesP a b)), 0) := by simp only [differRR, hv, hv2, Bool.and_self, if_true]
      go_enter Try.func45, Try.ntmps45
      go_wp2_with fail
      refine (validR_calls a A ca _ HA.out HCA.out (by have := HLA.out; omega)).mono ?_
      rintro e w1 ⟨rfl, h1⟩
      have H1 := Aside0.mk h1
      clear h1
      rw [hv]
      clear hv
      go_wp2_with fail
      refine (validR_calls b B cb w1 (Kd.C_below HB.out H1.out) HCB.out (by have := HLB.out; omega)).mono ?_
      rintro e w ⟨rfl, h2⟩
      have H2 := Aside0.mk (below_step H1.out h2)
      clear h2
      rw [hv2]
      clear hv2
      go_wp2_with fail
      refine (edges_calls a b A B ca cb w (Kd.C_below HA.out H2.out) (Kd.C_below HB.out H2.out) HLA.out HLB.out).mono ?_
      rintro e w1 ⟨Ae, ce, rfl, hce, hE, hb1⟩
      have hEl : (edgesP a b).length ≤ 500 := by
        have h1 := edgesF_len b (edgesF [0, 100000000] a)
        have h2 := edgesF_len a [0, 100000000]
        have := HLA.out
        have := HLB.out
        simp only [edgesP, List.length_cons, List.length_nil] at h1 h2 ⊢
        omega
      generalize edgesP a b = E at hce hE hEl hRC ⊢
      have HRC := Aside0.mk hRC
      clear hRC
      have HE := Aside0.mk (Kd.reads_of_C (d := (0 : Int)) hE)
      have HB1 := Aside0.mk (below_step H2.out hb1)
      have HEL := Aside0.mk hEl
      have HCE := Aside0.mk hce
      clear hce hE hb1 hEl
      go_wp2_with fail
      go_loopg [7, 8] E.length (fun kq v7 v8 wr => ∃ (i m : Nat), v8 = .int .i64 (i : Int) ∧ Aside0 (i + kq = E.length) ∧ Aside0 (m = (diffL ((cellsE a b E).take i)).length) ∧ Aside0 (wr.ownsRow w1.heap.size 26 2 v7 m (flat2 (diffL ((cellsE a b E).take i)))) ∧ Aside0 (Below w1.heap.size w1 wr))
      case atStart => exact ⟨0, 0, rfl, ⟨by omega⟩, ⟨rfl⟩, ⟨World.ownsRow_nil _ _ _ _⟩, ⟨Below.refl _ _⟩⟩
      case round =>
        obtain ⟨i, m, rfl, HK, HM, HO, HBw⟩ := hrel
        have HBr := Aside0.mk (below_step HB1.out HBw.out)
        by_cases hi : i + 1 < E.length
        · have hib : decide ((i : Int) + 1 < (E.length : Int)) = true := decide_eq_true (by omega)
          obtain ⟨ad, rfl, hce⟩ := HE.out.2.2 (by omega)
          have e0 : wr.cell? (ad.add i) = some (.int .i64 (E.getD i 0)) := pw_cell_below HBw.out (hce i (by omega))
          have e1 : wr.cell? ⟨ad.block, ad.off + (i + 1), none⟩ = some (.int .i64 (E.getD (i + 1) 0)) := by rw [← add_succ]; exact pw_cell_below HBw.out (hce (i + 1) (by omega))
          have HEC := Aside0.mk hce
          clear hce
          have q1 := eq_true (show (i : Int) < (E.length : Int) by omega)
          have q2 := eq_true (show (0 : Int) ≤ (i : Int) by omega)
          have q3 := eq_true (show (i : Int) + 1 < (E.length : Int) by omega)
          have i500 : i ≤ 500 := by have := HEL.out; omega
          simp only [List.getD_eq_getElem?_getD] at e0 e1
          have HI := Aside0.mk hi
          clear hi
          have hcell := cellsE_take a b E i HI.out
          have hsn : diffL ((cellsE a b E).take (i + 1)) = stepD (diffL ((cellsE a b E).take i)) (cellAt a b E i) := by rw [hcell, diffL_snoc]
          unfold stepD cellAt at hsn
          simp only [List.getD_eq_getElem?_getD] at hsn
          have HSN := Aside0.mk hsn
          have HAr := Aside0.mk (Kd.C_below HA.out HBr.out)
          have HBBr := Aside0.mk (Kd.C_below HB.out HBr.out)
          clear hcell hsn
          obtain ⟨i0, hi0, hz0, hz1, hz2⟩ := info_parts info26
          obtain ⟨Av, cv, rfl⟩ := own_slice HO.out
          have hm5 : m ≤ 500 := by have h1 := diffL_len ((cellsE a b E).take i); have h2 := HM.out; have h3 := HEL.out; have h4 := HI.out; simp at h1; omega
          generalize hOUT : diffL ((cellsE a b E).take i) = OUT at HO HM HSN
          have HOUT := Aside0.mk hOUT
          clear hOUT
          go_upto_region 8 with (fail)
          go_cut [40] from 28 to 39 (fun s40 w' => s40 = .bool (hold a (E[i]?.getD 0) == hold b (E[i]?.getD 0)) ∧ Aside0 (∃ q, w' = wr.drewN q))
          case first =>
            have HQ : Aside0 (∃ q, wr.drew = wr.drewN q) := ⟨1, rfl⟩
            have d0 := e0
            go_region_held3 (fun w' => w'.cell? (ad.add i) = some (.int .i64 (E[i]?.getD 0))) (first | exact d0 | exact cell_drew_far d0)
              (first | (go_at_call 64; with_reducible refine (holder_at a A ca _ wr _ HAr.out HCA.out HLA.out HQ.out).mono ?_; rintro e w' ⟨rfl, hq⟩; replace HQ := Aside0.mk hq; have d0 := pw_cell_below (below_q hq) e0; clear hq) | (go_at_call 64; with_reducible refine (holder_at b B cb _ wr _ HBBr.out HCB.out HLB.out HQ.out).mono ?_; rintro e w' ⟨rfl, hq⟩; replace HQ := Aside0.mk hq; have d0 := pw_cell_below (below_q hq) e0; clear hq))
            all_goals (go_wp2_with fail; go_meet)
            all_goals exact ⟨rfl, HQ⟩
          case rest =>
            obtain ⟨rfl, HQ⟩ := hcut
            obtain ⟨q, rfl⟩ := HQ.out
            replace HO : Aside0 ((wr.drewN q).ownsRow w1.heap.size 26 2 (.slice Av m cv) m (flat2 OUT)) := HO
            replace HBw := Aside0.mk (pw_below_drewN HBw.out q)
            replace HBr := Aside0.mk (pw_below_drewN HBr.out q)
            replace e0 : (wr.drewN q).cell? (ad.add i) = some (.int .i64 (E[i]?.getD 0)) := e0
            replace e1 : (wr.drewN q).cell? ⟨ad.block, ad.off + (i + 1), none⟩ = some (.int .i64 (E[i + 1]?.getD 0)) := e1
            clear HAr HBBr HQ
            generalize wr.drewN q = wr2 at *
            by_cases hk : hold a (E[i]?.getD 0) = hold b (E[i]?.getD 0)
            · have hkb : (hold a (E[i]?.getD 0) == hold b (E[i]?.getD 0)) = true := beq_iff_eq.mpr hk
              have hE1 : diffL ((cellsE a b E).take (i + 1)) = OUT := HSN.out.trans (by rw [if_pos hk])
              have E1 := Aside0.mk hE1
              have b3 := eq_true hk
              clear hk hE1 HSN
              go_wp2_with fail
              go_roundg (E.length - (i + 1))
              case measure => have := HK.out; have := HI.out; omega
              case rel => exact ⟨i + 1, m, by go_num, ⟨by have := HK.out; have := HI.out; omega⟩, ⟨by rw [E1.out]; exact HM.out⟩, ⟨by rw [E1.out]; exact HO.out⟩, HBw⟩
            · have hkb : (hold a (E[i]?.getD 0) == hold b (E[i]?.getD 0)) = false := beq_eq_false_iff_ne.mpr hk
              have HSN2 := Aside0.mk (HSN.out.trans (by rw [if_neg hk]))
              have b3 := eq_false hk
              clear hk HSN
              cases m with
              | zero =>
                have hd1 : decide ((0 : Int) < 0) = false := rfl
                have ho0 : OUT = [] := List.eq_nil_of_length_eq_zero HM.out.symm
                have hE1 : diffL ((cellsE a b E).take (i + 1)) = OUT ++ [⟨E[i]?.getD 0, E[i + 1]?.getD 0⟩] := by rw [HSN2.out, ho0]; rfl
                have E1 := Aside0.mk hE1
                clear hE1 ho0
                go_wp2_with fail
                go_quiet (fail)
                go_wp2_with fail
                have hwr : IntKind.i64.wrap ((i : Int) + 1) = (i : Int) + 1 := IntWalk.i64_in _ (by omega)
                have htn : ((i : Int) + 1).toNat = i + 1 := by omega
                have q6 := eq_true (show (0 : Int) ≤ (i : Int) + 1 by omega)
                go_region_held3 (fun w' => w'.cell? (ad.add i) = some (.int .i64 (E[i]?.getD 0)) ∧ w'.cell? ⟨ad.block, ad.off + (i + 1), none⟩ = some (.int .i64 (E[i + 1]?.getD 0))) (go_keep)
                  ((refine step_append_lies _ (by rfl) _ _ _ (by rfl) w1.heap.size 26 i0 _ 2 16 Try.underlying47 hi0 hz0 hz1 hz2 rfl (by omega) _ 0 (flat2 OUT) (by rfl) (by exact World.ownsRow.alloc (w := wr2.drewN _) HO.out _) ⟨wr2.heap.size, 0, none⟩ 1 1 (cells2 ⟨E[i]?.getD 0, E[i + 1]?.getD 0⟩) (by rfl) (by rfl) (by exact cells_new2 (wr2.drewN _) ⟨E[i]?.getD 0, E[i + 1]?.getD 0⟩) (by simp [cells2, Value.oneCell']) (by omega) (by unfold maxLen; omega) (by omega) (by have := HBw.out.size; simp; omega) (wr2.heap.size + 1) (by simp) ?_; intro gg cap w4 hown1 hgrow hat hlt; have HW4 := Aside0.mk (app_below2 HBw.out HO.out hgrow); have d0 := app_cell HW4.out HEC.out i (by have := HI.out; omega); have d1 := app_cell HW4.out HEC.out (i + 1) HI.out; rw [add_succ] at d1; simp only [List.getD_eq_getElem?_getD] at d0 d1; have HO1 := Aside0.mk hown1; clear hown1 hgrow hat hlt))
                clear hwr htn q6
                go_wp2_with fail
                go_roundg (E.length - (i + 1))
                case measure => have := HK.out; have := HI.out; omega
                case rel => exact ⟨i + 1, 0 + 1, by go_num, ⟨by have := HK.out; have := HI.out; omega⟩, ⟨by rw [E1.out, List.length_append, ← HM.out]; rfl⟩, ⟨by rw [E1.out, flat2_snoc]; exact HO1.out⟩, HW4⟩
              | succ m =>
                obtain ⟨g2, c2, hvv⟩ := ownsRow_succ HO.out
                cases hvv
                have hlast := flat2_last OUT (by have := HM.out; omega)
                rw [show OUT.length - 1 = m by have := HM.out; omega] at hlast
                have c0 := (HO.out.cellAt (m * 2) (by omega)).trans hlast.1
                have c1 := (HO.out.cellAt (m * 2 + 1) (by omega)).trans hlast.2
                have f1 := HO.out.frozenAt (m * 2 + 1)
                have hd1 : decide ((0 : Int) < (m : Int) + 1) = true := decide_eq_true (by omega)
                have hmx : max (m : Int) 0 = (m : Int) := by omega
                have q4 := eq_true (show (m : Int) < (m : Int) + 1 by omega)
                have q5 := eq_true (show (0 : Int) ≤ (m : Int) by omega)
                have ho : decide (0 < OUT.length) = true := decide_eq_true (by have := HM.out; omega)
                clear hlast
                by_cases hT : (lastR OUT).f1 = E[i]?.getD 0
                · have hTb : ((lastR OUT).f1 == E[i]?.getD 0) = true := beq_iff_eq.mpr hT
                  clear hT
                  have hE1 : diffL ((cellsE a b E).take (i + 1)) = OUT.set (OUT.length - 1) ⟨(lastR OUT).f0, E[i + 1]?.getD 0⟩ := by
                    rw [HSN2.out]
                    show (if decide (0 < OUT.length) && ((lastR OUT).f1 == E[i]?.getD 0) then _ else _) = _
                    rw [if_pos (by rw [ho, hTb]; rfl)]
                    rfl
                  have E1 := Aside0.mk hE1
                  clear ho hE1
                  go_wp2_with fail
                  go_quiet (fail)
                  go_wp2_with fail
                  have hst := (World.ownsRow.stored (w := wr2.drewN nq) HO.out (m * 2 + 1) (.int .i64 (E[i + 1]?.getD 0)))
                  have HST := Aside0.mk hst.1
                  have HBS := Aside0.mk ((pw_below_drewN HBw.out nq).setCell (p := ⟨g2, m * 2 + 1, none⟩) (own_base HO.out g2 rfl) (.int .i64 (E[i + 1]?.getD 0)))
                  clear hst
                  go_roundg (E.length - (i + 1))
                  case measure => have := HK.out; have := HI.out; omega
                  case rel => exact ⟨i + 1, m + 1, by go_num, ⟨by have := HK.out; have := HI.out; omega⟩, ⟨by rw [E1.out, List.length_set]; exact HM.out⟩, ⟨by rw [E1.out, flat2_set_last _ _ (by have := HM.out; omega), show OUT.length - 1 = m by have := HM.out; omega]; exact HST.out⟩, HBS⟩
                · have hTb : ((lastR OUT).f1 == E[i]?.getD 0) = false := beq_eq_false_iff_ne.mpr hT
                  have hE1 : diffL ((cellsE a b E).take (i + 1)) = OUT ++ [⟨E[i]?.getD 0, E[i + 1]?.getD 0⟩] := by
                    rw [HSN2.out]
                    show (if decide (0 < OUT.length) && ((lastR OUT).f1 == E[i]?.getD 0) then _ else _) = _
                    rw [if_neg (by rw [hTb, Bool.and_false]; decide)]
                  have E1 := Aside0.mk hE1
                  clear hT ho hE1
                  go_wp2_with fail
                  go_quiet (fail)
                  go_wp2_with fail
                  have hwr : IntKind.i64.wrap ((i : Int) + 1) = (i : Int) + 1 := IntWalk.i64_in _ (by omega)
                  have htn : ((i : Int) + 1).toNat = i + 1 := by omega
                  have q6 := eq_true (show (0 : Int) ≤ (i : Int) + 1 by omega)
                  go_region_held3 (fun w' => w'.cell? (ad.add i) = some (.int .i64 (E[i]?.getD 0)) ∧ w'.cell? ⟨ad.block, ad.off + (i + 1), none⟩ = some (.int .i64 (E[i + 1]?.getD 0))) (go_keep)
                    ((refine step_append_lies _ (by rfl) _ _ _ (by rfl) w1.heap.size 26 i0 _ 2 16 Try.underlying47 hi0 hz0 hz1 hz2 rfl (by omega) _ (m + 1) (flat2 OUT) (by rfl) (by exact World.ownsRow.alloc (w := wr2.drewN _) HO.out _) ⟨wr2.heap.size, 0, none⟩ 1 1 (cells2 ⟨E[i]?.getD 0, E[i + 1]?.getD 0⟩) (by rfl) (by rfl) (by exact cells_new2 (wr2.drewN _) ⟨E[i]?.getD 0, E[i + 1]?.getD 0⟩) (by simp [cells2, Value.oneCell']) (by omega) (by unfold maxLen; omega) (by omega) (by have := HBw.out.size; simp; omega) (wr2.heap.size + 1) (by simp) ?_; intro gg cap w4 hown1 hgrow hat hlt; have HW4 := Aside0.mk (app_below2 HBw.out HO.out hgrow); have d0 := app_cell HW4.out HEC.out i (by have := HI.out; omega); have d1 := app_cell HW4.out HEC.out (i + 1) HI.out; rw [add_succ] at d1; simp only [List.getD_eq_getElem?_getD] at d0 d1; have HO1 := Aside0.mk hown1; clear hown1 hgrow hat hlt))
                  clear hwr htn q6
                  go_wp2_with fail
                  go_roundg (E.length - (i + 1))
                  case measure => have := HK.out; have := HI.out; omega
                  case rel => exact ⟨i + 1, (m + 1) + 1, by go_num, ⟨by have := HK.out; have := HI.out; omega⟩, ⟨by rw [E1.out, List.length_append, ← HM.out]; rfl⟩, ⟨by rw [E1.out, flat2_snoc]; exact HO1.out⟩, HW4⟩
        · have hib : decide ((i : Int) + 1 < (E.length : Int)) = false := decide_eq_false (by omega)
          have hfin : (cellsE a b E).take i = cellsE a b E := List.take_of_length_le (by rw [cellsE_len]; omega)
          have i500 : i ≤ 500 := by have := HEL.out; have := HK.out; omega
          rw [hfin] at HM HO
          generalize diffL (cellsE a b E) = OUT at HO HM HRC ⊢
          have hml := HM.out
          subst hml
          have hown := HO.out
          have hRO := R_of_flat2 (own_weaken hown HB1.out.size)
          have HRO := Aside0.mk hRO
          obtain ⟨Av, cv, rfl⟩ := own_slice HO.out
          clear hi hfin hown hRO
          go_wp2_with fail
          go_ret2
          exact ⟨_, by rw [HRC.out]; rfl, by rw [HRC.out]; exact HRO.out, HBr.out⟩
end Go.Proofs.Ytdflgjgoikofaaa.Bk

namespace Go.Proofs.Ytdflgjgoikofaaa.Pl
open Go.Proofs.Ytdflgjgoikofaaa.Ref Go.Proofs.Ytdflgjgoikofaaa.Bk

theorem differ_eq (a b : List S53) : differRR a b = differP a b := by
  unfold differRR differP
  by_cases h : (validP a && validP b) = true
  · rw [if_pos h, if_pos h]
    rw [Bool.and_eq_true] at h
    have ha := validP_from h.1
    have hb := validP_from h.2
    rw [(diff_comb (cellsE a b (edgesP a b))).1, (diff_comb (pieces a b)).1, comb_ref hD hD hD_ok a b ha hb (fun n => rfl) hD_ok]
  · rw [if_neg h, if_neg h]
theorem freeRF_law (l : List S53) : ∀ p, validFrom p l = true → ∀ n, n ≤ freeRF l n ∧ (∀ x, n ≤ x → x < freeRF l n → hold l x ≠ -1) ∧ hold l (freeRF l n) = -1 := by
  induction l with
  | nil => intro p _ n; exact ⟨Int.le_refl _, fun x h1 h2 => by simp only [freeRF] at h2; omega, rfl⟩
  | cons b l ih =>
    intro p h n
    have hb := validFrom_cons h
    by_cases hn : bF b ≤ n ∧ n < bT b
    · obtain ⟨i1, i2, i3⟩ := ih b hb.2 (bT b)
      have e : freeRF (b :: l) n = freeRF l (bT b) := by simp only [freeRF]; rw [if_pos hn]
      rw [e]
      refine ⟨by omega, fun x h1 h2 => ?_, ?_⟩
      · rw [hold_c]
        by_cases hx : bF b ≤ x ∧ x < bT b
        · rw [if_pos hx]; omega
        · rw [if_neg hx]; exact i2 x (by omega) h2
      · rw [hold_c, if_neg (by omega)]; exact i3
    · obtain ⟨i1, i2, i3⟩ := ih b hb.2 n
      have e : freeRF (b :: l) n = freeRF l n := by simp only [freeRF]; rw [if_neg hn]
      rw [e]
      refine ⟨i1, fun x h1 h2 => ?_, ?_⟩
      · rw [hold_c]
        by_cases hx : bF b ≤ x ∧ x < bT b
        · rw [if_pos hx]; omega
        · rw [if_neg hx]; exact i2 x h1 h2
      · rw [hold_c]
        by_cases hlt : n < bF b
        · have hm : freeRF l n = n := by
            by_cases hm : freeRF l n = n
            · exact hm
            · exact absurd (hold_low l b hb.2 n (by omega)) (i2 n (Int.le_refl _) (by omega))
          rw [if_neg (by omega)]; exact i3
        · rw [if_neg (by omega)]; exact i3
theorem free_eq (l : List S53) (n : Int) : freeR l n = freeP l n := by
  by_cases h : validP l = true ∧ 0 ≤ n ∧ n ≤ 99999999
  · obtain ⟨i1, i2, i3⟩ := freeRF_law l b00 (validP_from h.1) n
    have e : freeR l n = capR (freeRF l n) := by unfold freeR; rw [if_pos h]
    rw [e]
    unfold capR
    rcases free_spec h.1 h.2 with ⟨f1, f2⟩ | ⟨k, f1, f2, f3, f4, f5⟩
    · rw [f1]
      by_cases hm : freeRF l n > 99999999
      · rw [if_pos hm]
      · have := f2 (freeRF l n) i1 (by omega); omega
    · rw [f1]
      have hk : freeRF l n = k := by
        by_cases h1 : freeRF l n < k
        · have := f5 _ i1 h1; omega
        · by_cases h2 : k < freeRF l n
          · exact absurd f4 (i2 k f2 h2)
          · omega
      rw [hk, if_neg (by omega)]
  · unfold freeR freeP
    rw [if_neg h, if_neg h]
theorem giveP_len (l : List S53) (f t k : Int) : (giveP l f t k).1.length ≤ 40 := by rw [← give_eq]; exact giveR_len l f t k
theorem takeP_len (l : List S53) (f t : Int) : (takeP l f t).1.length ≤ 40 := by rw [← take_eq]; exact takeR_len l f t
theorem onlyR_len (l : List S53) (f t : Int) : (onlyR l f t).1.length ≤ 40 := by
  rw [← only_eq]
  unfold onlyRR
  split
  · exact finR_len _
  · simp [errR]
theorem overlayP_len (a b : List S53) : (overlayP a b).1.length ≤ 40 := by
  rw [← overlay_eq]
  unfold overlayR
  split
  · exact finR_len _
  · simp [errR]
theorem swapR_len (l : List S53) (f t : Int) : (swapR l f t).1.length ≤ 40 := by
  rw [← swap_eq]
  unfold swapRR
  split
  · exact finR_len _
  · simp [errR]
theorem differP_len (a b : List S53) (ha : a.length ≤ 100) (hb : b.length ≤ 100) : (differP a b).1.length ≤ 1000 := by
  rw [← differ_eq]
  unfold differRR
  split
  · have h1 := edgesF_len b (edgesF [0, 100000000] a)
    have h2 := edgesF_len a [0, 100000000]
    have h3 := diffL_len (cellsE a b (edgesP a b))
    rw [cellsE_len] at h3
    simp only [edgesP, List.length_cons, List.length_nil] at h1 h2 h3 ⊢
    omega
  · simp
end Go.Proofs.Ytdflgjgoikofaaa.Pl

set_option linter.unusedVariables false
namespace Go.Proofs.Ytdflgjgoikofaaa.Bk
open Go.RowKit Go.Shelf Go.Proofs.YtdflgjgoikofaaaW.PrintWords Go.Proofs.YtdflgjgoikofaaaW.PrintLast Go.Proofs.YtdflgjgoikofaaaW.PrintMore
open Go.Proofs.Ytdflgjgoikofaaa.Ref Go.Proofs.Ytdflgjgoikofaaa.Pl Go.Proofs.Ytdflgjgoikofaaa.Rg
section
variable {l m : List S53} {v u : Value} {w : World} (h : Rw w l v) (hl : l.length ≤ 60)
include h in
theorem findV (n : Int) (k : Int) (b : Bool) (hr : findP l n = (k, b)) : Calls Try.prog 38 #[v, .int .i64 n] w fun e w' => e = .returned (.tuple #[.int .i64 k, .bool b]) ∧ Below w.heap.size w w' := by
  obtain ⟨A, c, rfl, hc, hC⟩ := h
  exact (find_calls l A c n w hC).mono fun e w' h' => by rw [hr] at h'; exact h'
include h hl
theorem rfindV (n : Int) (k : Int) (b : Bool) (hr : findP l n = (k, b)) : Calls Try.prog 39 #[v, .int .i64 n] w fun e w' => e = .returned (.tuple #[.int .i64 k, .bool b]) ∧ Below w.heap.size w w' := by
  obtain ⟨A, c, rfl, hc, hC⟩ := h
  exact dialtoneref13_Find.calls 1000 A c l n k b w hC hc ((Find_f l n (by omega) 1000 (by omega)).trans (by rw [hr]))
theorem rvalidV (b : Bool) (hr : validP l = b) : Calls Try.prog 41 #[v] w fun e w' => e = .returned (.bool b) ∧ Below w.heap.size w w' := by
  obtain ⟨A, c, rfl, hc, hC⟩ := h
  rw [← hr]
  exact validR_calls l A c w hC hc (by omega)
theorem rcountV (k : Int) (n : Int) (hr : cntP l k = n) : Calls Try.prog 42 #[v, .int .i64 k] w fun e w' => e = .returned (.int .i64 n) ∧ Below w.heap.size w w' := by
  obtain ⟨A, c, rfl, hc, hC⟩ := h
  exact dialtoneref13_Count.calls 1000 A c l k n w hC hc ((Count_f l k (by omega) 1000 (by omega)).trans (by rw [hr]))
theorem rfreeV (n : Int) (k : Int) (b : Bool) (hr : freeP l n = (k, b)) : Calls Try.prog 46 #[v, .int .i64 n] w fun e w' => e = .returned (.tuple #[.int .i64 k, .bool b]) ∧ Below w.heap.size w w' := by
  obtain ⟨A, c, rfl, hc, hC⟩ := h
  exact dialtoneref13_Free.calls 1000 A c l n k b w hC hc ((Free_f l n (by omega) 1000 (by omega)).trans (by rw [Pl.free_eq, hr]))
theorem rgiveV (f t k : Int) (l' : List S53) (e' : Int) (hr : giveP l f t k = (l', e')) : Calls Try.prog 36 #[v, .agg #[.int .i64 f, .int .i64 t], .int .i64 k] w (MapV l' e' w) := by
  obtain ⟨A, c, rfl, hc, hC⟩ := h
  exact (giveR_calls l A c f t k w hC hc (by omega)).mono fun e w' h' => by rw [give_eq, hr] at h'; exact MapV.of h'
theorem rtakeV (f t : Int) (l' : List S53) (e' : Int) (hr : takeP l f t = (l', e')) : Calls Try.prog 37 #[v, .agg #[.int .i64 f, .int .i64 t]] w (MapV l' e' w) := by
  obtain ⟨A, c, rfl, hc, hC⟩ := h
  exact (takeR_calls l A c f t w hC hc (by omega)).mono fun e w' h' => by rw [take_eq, hr] at h'; exact MapV.of h'
theorem ronlyV (f t : Int) (l' : List S53) (e' : Int) (hr : onlyR l f t = (l', e')) : Calls Try.prog 40 #[v, .agg #[.int .i64 f, .int .i64 t]] w (MapV l' e' w) := by
  obtain ⟨A, c, rfl, hc, hC⟩ := h
  exact (onlyR_calls l A c f t w hC hc (by omega)).mono fun e w' h' => by rw [only_eq, hr] at h'; exact MapV.of h'
theorem rswapV (f t : Int) (l' : List S53) (e' : Int) (hr : swapR l f t = (l', e')) : Calls Try.prog 44 #[v, .int .i64 f, .int .i64 t] w (MapV l' e' w) := by
  obtain ⟨A, c, rfl, hc, hC⟩ := h
  exact (swapR_calls l A c f t w hC hc (by omega)).mono fun e w' h' => by rw [swap_eq, hr] at h'; exact MapV.of h'
variable (h2 : Rw w m u) (hm : m.length ≤ 60)
include h2 hm
theorem roverlayV (l' : List S53) (e' : Int) (hr : overlayP l m = (l', e')) : Calls Try.prog 43 #[v, u] w (MapV l' e' w) := by
  obtain ⟨A, c, rfl, hc, hC⟩ := h
  obtain ⟨B, d, rfl, hd, hD⟩ := h2
  exact (overlayR_calls l m A B c d w hC hD hc hd (by omega) (by omega)).mono fun e w' h' => by rw [overlay_eq, hr] at h'; exact MapV.of h'
theorem rdifferV (l' : List S26) (e' : Int) (hr : differP l m = (l', e')) : Calls Try.prog 45 #[v, u] w (RngV l' e' w) := by
  obtain ⟨A, c, rfl, hc, hC⟩ := h
  obtain ⟨B, d, rfl, hd, hD⟩ := h2
  exact (differR_calls l m A B c d w hC hD hc hd (by omega) (by omega)).mono fun e w' h' => by rw [differ_eq, hr] at h'; exact RngV.of h'
end
end Go.Proofs.Ytdflgjgoikofaaa.Bk

set_option linter.unusedVariables false
namespace Go.Proofs.Ytdflgjgoikofaaa.Bk
open Go.RowKit Go.Shelf Go.Proofs.YtdflgjgoikofaaaW.PrintWords Go.Proofs.YtdflgjgoikofaaaW.PrintLast Go.Proofs.YtdflgjgoikofaaaW.PrintMore
open Go.Proofs.Ytdflgjgoikofaaa.Ref Go.Proofs.Ytdflgjgoikofaaa.Pl Go.Proofs.Ytdflgjgoikofaaa.Rg

set_option maxHeartbeats 16000000 in
set_option maxRecDepth 100000 in
theorem agree_walk (a b gl tl ol vl sl : List S53) (dl : List S26) (va vb : Value) (rf rt fr to' n fc ct ge te oe ve se de rk : Int) (fb bv rb : Bool) (w : World)
    (F0 : Aside0 (Rw w a va ∧ Rw w b vb)) (LN : Aside0 (a.length ≤ 60 ∧ b.length ≤ 60 ∧ gl.length ≤ 1000 ∧ tl.length ≤ 1000 ∧ ol.length ≤ 1000 ∧ vl.length ≤ 1000 ∧ sl.length ≤ 1000 ∧ dl.length ≤ 1000))
    (FP : Aside0 (findP a n = (fc, fb))) (VP : Aside0 (validP a = bv)) (CP : Aside0 (cntP a to' = ct)) (GP : Aside0 (giveP a rf rt to' = (gl, ge))) (TP : Aside0 (takeP a rf rt = (tl, te))) (OP : Aside0 (onlyR a rf rt = (ol, oe)))
    (VL : Aside0 (overlayP a b = (vl, ve))) (SP : Aside0 (swapR a fr to' = (sl, se))) (DP : Aside0 (differP a b = (dl, de))) (RP : Aside0 (freeP a n = (rk, rb)))
    (b1 : (fb != fb) = false) (b2 : (bv != bv) = false) (b3 : (rb == rb) = true) :
    Calls Try.prog 16 #[va, vb, .agg #[.int .i64 rf, .int .i64 rt], .int .i64 fr, .int .i64 to', .int .i64 n] w fun e w' => e = .returned (.bool true) ∧ Below w.heap.size w w' := by
  have hal := (Below.refl _ w).alloc (Nat.le_refl _) (.cells #[.int .i64 rf, .int .i64 rt] 26)
  have F := Aside0.mk (And.intro (F0.out.1.below hal) (And.intro (F0.out.2.below hal) (And.intro (blk_new w (.cells #[.int .i64 rf, .int .i64 rt] 26)) hal)))
  clear hal F0
  go_enter Try.func16, Try.ntmps16
  go_wp2_with fail
  refine (findV F.out.1 n fc fb FP.out).mono ?_
  rintro e x1 ⟨rfl, h⟩
  replace F := Aside0.mk (And.intro (F.out.1.below h) (And.intro (F.out.2.1.below h) (And.intro (blk_below F.out.2.2.1 h) (below_step F.out.2.2.2 h))))
  clear h
  go_wp2_with fail
  refine (rfindV F.out.1 LN.out.1 n fc fb FP.out).mono ?_
  rintro e x2 ⟨rfl, h⟩
  replace F := Aside0.mk (And.intro (F.out.1.below h) (And.intro (F.out.2.1.below h) (And.intro (blk_below F.out.2.2.1 h) (below_step F.out.2.2.2 h))))
  clear h
  have c0 : x2.cell? ⟨w.heap.size, 0, none⟩ = some (.int .i64 rf) := (blk_cell F.out.2.2.1 0).trans rfl
  have c1 : x2.cell? ⟨w.heap.size, 1, none⟩ = some (.int .i64 rt) := (blk_cell F.out.2.2.1 1).trans rfl
  go_wp2_with fail
  clear c0 c1
  refine (giveV F.out.1 rf rt to' gl ge GP.out).mono ?_
  rintro e x3 ⟨v3, rfl, r, h⟩
  replace F := Aside0.mk (And.intro (F.out.1.below h) (And.intro (F.out.2.1.below h) (And.intro (blk_below F.out.2.2.1 h) (below_step F.out.2.2.2 h))))
  have R := Aside0.mk (r)
  clear h r
  have c0 : x3.cell? ⟨w.heap.size, 0, none⟩ = some (.int .i64 rf) := (blk_cell F.out.2.2.1 0).trans rfl
  have c1 : x3.cell? ⟨w.heap.size, 1, none⟩ = some (.int .i64 rt) := (blk_cell F.out.2.2.1 1).trans rfl
  go_wp2_with fail
  clear c0 c1
  refine (rgiveV F.out.1 LN.out.1 rf rt to' gl ge GP.out).mono ?_
  rintro e x4 ⟨v4, rfl, r, h⟩
  replace F := Aside0.mk (And.intro (F.out.1.below h) (And.intro (F.out.2.1.below h) (And.intro (blk_below F.out.2.2.1 h) (below_step F.out.2.2.2 h))))
  replace R := Aside0.mk (And.intro (R.out.below h) (r))
  clear h r
  have c0 : x4.cell? ⟨w.heap.size, 0, none⟩ = some (.int .i64 rf) := (blk_cell F.out.2.2.1 0).trans rfl
  have c1 : x4.cell? ⟨w.heap.size, 1, none⟩ = some (.int .i64 rt) := (blk_cell F.out.2.2.1 1).trans rfl
  go_wp2_with fail
  clear c0 c1
  refine (takeV F.out.1 rf rt tl te TP.out).mono ?_
  rintro e x5 ⟨v5, rfl, r, h⟩
  replace F := Aside0.mk (And.intro (F.out.1.below h) (And.intro (F.out.2.1.below h) (And.intro (blk_below F.out.2.2.1 h) (below_step F.out.2.2.2 h))))
  replace R := Aside0.mk (And.intro (R.out.1.below h) (And.intro (R.out.2.below h) (r)))
  clear h r
  have c0 : x5.cell? ⟨w.heap.size, 0, none⟩ = some (.int .i64 rf) := (blk_cell F.out.2.2.1 0).trans rfl
  have c1 : x5.cell? ⟨w.heap.size, 1, none⟩ = some (.int .i64 rt) := (blk_cell F.out.2.2.1 1).trans rfl
  go_wp2_with fail
  clear c0 c1
  refine (rtakeV F.out.1 LN.out.1 rf rt tl te TP.out).mono ?_
  rintro e x6 ⟨v6, rfl, r, h⟩
  replace F := Aside0.mk (And.intro (F.out.1.below h) (And.intro (F.out.2.1.below h) (And.intro (blk_below F.out.2.2.1 h) (below_step F.out.2.2.2 h))))
  replace R := Aside0.mk (And.intro (R.out.1.below h) (And.intro (R.out.2.1.below h) (And.intro (R.out.2.2.below h) (r))))
  clear h r
  have c0 : x6.cell? ⟨w.heap.size, 0, none⟩ = some (.int .i64 rf) := (blk_cell F.out.2.2.1 0).trans rfl
  have c1 : x6.cell? ⟨w.heap.size, 1, none⟩ = some (.int .i64 rt) := (blk_cell F.out.2.2.1 1).trans rfl
  go_wp2_with fail
  clear c0 c1
  refine (onlyV F.out.1 rf rt ol oe OP.out).mono ?_
  rintro e x7 ⟨v7, rfl, r, h⟩
  replace F := Aside0.mk (And.intro (F.out.1.below h) (And.intro (F.out.2.1.below h) (And.intro (blk_below F.out.2.2.1 h) (below_step F.out.2.2.2 h))))
  replace R := Aside0.mk (And.intro (R.out.1.below h) (And.intro (R.out.2.1.below h) (And.intro (R.out.2.2.1.below h) (And.intro (R.out.2.2.2.below h) (r)))))
  clear h r
  have c0 : x7.cell? ⟨w.heap.size, 0, none⟩ = some (.int .i64 rf) := (blk_cell F.out.2.2.1 0).trans rfl
  have c1 : x7.cell? ⟨w.heap.size, 1, none⟩ = some (.int .i64 rt) := (blk_cell F.out.2.2.1 1).trans rfl
  go_wp2_with fail
  clear c0 c1
  refine (ronlyV F.out.1 LN.out.1 rf rt ol oe OP.out).mono ?_
  rintro e x8 ⟨v8, rfl, r, h⟩
  replace F := Aside0.mk (And.intro (F.out.1.below h) (And.intro (F.out.2.1.below h) (And.intro (blk_below F.out.2.2.1 h) (below_step F.out.2.2.2 h))))
  replace R := Aside0.mk (And.intro (R.out.1.below h) (And.intro (R.out.2.1.below h) (And.intro (R.out.2.2.1.below h) (And.intro (R.out.2.2.2.1.below h) (And.intro (R.out.2.2.2.2.below h) (r))))))
  clear h r
  go_wp2_with fail
  refine (validV F.out.1 bv VP.out).mono ?_
  rintro e x9 ⟨rfl, h⟩
  replace F := Aside0.mk (And.intro (F.out.1.below h) (And.intro (F.out.2.1.below h) (And.intro (blk_below F.out.2.2.1 h) (below_step F.out.2.2.2 h))))
  replace R := Aside0.mk (And.intro (R.out.1.below h) (And.intro (R.out.2.1.below h) (And.intro (R.out.2.2.1.below h) (And.intro (R.out.2.2.2.1.below h) (And.intro (R.out.2.2.2.2.1.below h) (R.out.2.2.2.2.2.below h))))))
  clear h
  go_wp2_with fail
  refine (rvalidV F.out.1 LN.out.1 bv VP.out).mono ?_
  rintro e x10 ⟨rfl, h⟩
  replace F := Aside0.mk (And.intro (F.out.1.below h) (And.intro (F.out.2.1.below h) (And.intro (blk_below F.out.2.2.1 h) (below_step F.out.2.2.2 h))))
  replace R := Aside0.mk (And.intro (R.out.1.below h) (And.intro (R.out.2.1.below h) (And.intro (R.out.2.2.1.below h) (And.intro (R.out.2.2.2.1.below h) (And.intro (R.out.2.2.2.2.1.below h) (R.out.2.2.2.2.2.below h))))))
  clear h
  go_wp2_with fail
  refine (countV F.out.1 to' ct CP.out).mono ?_
  rintro e x11 ⟨rfl, h⟩
  replace F := Aside0.mk (And.intro (F.out.1.below h) (And.intro (F.out.2.1.below h) (And.intro (blk_below F.out.2.2.1 h) (below_step F.out.2.2.2 h))))
  replace R := Aside0.mk (And.intro (R.out.1.below h) (And.intro (R.out.2.1.below h) (And.intro (R.out.2.2.1.below h) (And.intro (R.out.2.2.2.1.below h) (And.intro (R.out.2.2.2.2.1.below h) (R.out.2.2.2.2.2.below h))))))
  clear h
  go_wp2_with fail
  refine (rcountV F.out.1 LN.out.1 to' ct CP.out).mono ?_
  rintro e x12 ⟨rfl, h⟩
  replace F := Aside0.mk (And.intro (F.out.1.below h) (And.intro (F.out.2.1.below h) (And.intro (blk_below F.out.2.2.1 h) (below_step F.out.2.2.2 h))))
  replace R := Aside0.mk (And.intro (R.out.1.below h) (And.intro (R.out.2.1.below h) (And.intro (R.out.2.2.1.below h) (And.intro (R.out.2.2.2.1.below h) (And.intro (R.out.2.2.2.2.1.below h) (R.out.2.2.2.2.2.below h))))))
  clear h
  go_wp2_with fail
  refine (sameV R.out.1 R.out.2.1 LN.out.2.2.1 true ((sameP_iff gl gl).2 rfl)).mono ?_
  rintro e x13 ⟨rfl, h⟩
  replace F := Aside0.mk (And.intro (F.out.1.below h) (And.intro (F.out.2.1.below h) (And.intro (blk_below F.out.2.2.1 h) (below_step F.out.2.2.2 h))))
  replace R := Aside0.mk (And.intro (R.out.1.below h) (And.intro (R.out.2.1.below h) (And.intro (R.out.2.2.1.below h) (And.intro (R.out.2.2.2.1.below h) (And.intro (R.out.2.2.2.2.1.below h) (R.out.2.2.2.2.2.below h))))))
  clear h
  go_wp2_with fail
  refine (sameV R.out.2.2.1 R.out.2.2.2.1 LN.out.2.2.2.1 true ((sameP_iff tl tl).2 rfl)).mono ?_
  rintro e x14 ⟨rfl, h⟩
  replace F := Aside0.mk (And.intro (F.out.1.below h) (And.intro (F.out.2.1.below h) (And.intro (blk_below F.out.2.2.1 h) (below_step F.out.2.2.2 h))))
  replace R := Aside0.mk (And.intro (R.out.1.below h) (And.intro (R.out.2.1.below h) (And.intro (R.out.2.2.1.below h) (And.intro (R.out.2.2.2.1.below h) (And.intro (R.out.2.2.2.2.1.below h) (R.out.2.2.2.2.2.below h))))))
  clear h
  go_wp2_with fail
  refine (sameV R.out.2.2.2.2.1 R.out.2.2.2.2.2 LN.out.2.2.2.2.1 true ((sameP_iff ol ol).2 rfl)).mono ?_
  rintro e x15 ⟨rfl, h⟩
  replace F := Aside0.mk (And.intro (F.out.1.below h) (And.intro (F.out.2.1.below h) (And.intro (blk_below F.out.2.2.1 h) (below_step F.out.2.2.2 h))))
  replace R := Aside0.mk (And.intro (R.out.1.below h) (And.intro (R.out.2.1.below h) (And.intro (R.out.2.2.1.below h) (And.intro (R.out.2.2.2.1.below h) (And.intro (R.out.2.2.2.2.1.below h) (R.out.2.2.2.2.2.below h))))))
  clear h
  clear R
  go_wp2_with fail
  refine (overlayV F.out.1 F.out.2.1 vl ve VL.out).mono ?_
  rintro e x16 ⟨v16, rfl, r, h⟩
  replace F := Aside0.mk (And.intro (F.out.1.below h) (And.intro (F.out.2.1.below h) (And.intro (blk_below F.out.2.2.1 h) (below_step F.out.2.2.2 h))))
  have R := Aside0.mk (r)
  clear h r
  go_wp2_with fail
  refine (roverlayV F.out.1 LN.out.1 F.out.2.1 LN.out.2.1 vl ve VL.out).mono ?_
  rintro e x17 ⟨v17, rfl, r, h⟩
  replace F := Aside0.mk (And.intro (F.out.1.below h) (And.intro (F.out.2.1.below h) (And.intro (blk_below F.out.2.2.1 h) (below_step F.out.2.2.2 h))))
  replace R := Aside0.mk (And.intro (R.out.below h) (r))
  clear h r
  go_wp2_with fail
  refine (swapV F.out.1 fr to' sl se SP.out).mono ?_
  rintro e x18 ⟨v18, rfl, r, h⟩
  replace F := Aside0.mk (And.intro (F.out.1.below h) (And.intro (F.out.2.1.below h) (And.intro (blk_below F.out.2.2.1 h) (below_step F.out.2.2.2 h))))
  replace R := Aside0.mk (And.intro (R.out.1.below h) (And.intro (R.out.2.below h) (r)))
  clear h r
  go_wp2_with fail
  refine (rswapV F.out.1 LN.out.1 fr to' sl se SP.out).mono ?_
  rintro e x19 ⟨v19, rfl, r, h⟩
  replace F := Aside0.mk (And.intro (F.out.1.below h) (And.intro (F.out.2.1.below h) (And.intro (blk_below F.out.2.2.1 h) (below_step F.out.2.2.2 h))))
  replace R := Aside0.mk (And.intro (R.out.1.below h) (And.intro (R.out.2.1.below h) (And.intro (R.out.2.2.below h) (r))))
  clear h r
  go_wp2_with fail
  refine (differV F.out.1 F.out.2.1 dl de DP.out).mono ?_
  rintro e x20 ⟨v20, rfl, r, h⟩
  replace F := Aside0.mk (And.intro (F.out.1.below h) (And.intro (F.out.2.1.below h) (And.intro (blk_below F.out.2.2.1 h) (below_step F.out.2.2.2 h))))
  replace R := Aside0.mk (And.intro (R.out.1.below h) (And.intro (R.out.2.1.below h) (And.intro (R.out.2.2.1.below h) (And.intro (R.out.2.2.2.below h) (r)))))
  clear h r
  go_wp2_with fail
  refine (rdifferV F.out.1 LN.out.1 F.out.2.1 LN.out.2.1 dl de DP.out).mono ?_
  rintro e x21 ⟨v21, rfl, r, h⟩
  replace F := Aside0.mk (And.intro (F.out.1.below h) (And.intro (F.out.2.1.below h) (And.intro (blk_below F.out.2.2.1 h) (below_step F.out.2.2.2 h))))
  replace R := Aside0.mk (And.intro (R.out.1.below h) (And.intro (R.out.2.1.below h) (And.intro (R.out.2.2.1.below h) (And.intro (R.out.2.2.2.1.below h) (And.intro (R.out.2.2.2.2.below h) (r))))))
  clear h r
  go_wp2_with fail
  refine (freeV F.out.1 n rk rb RP.out).mono ?_
  rintro e x22 ⟨rfl, h⟩
  replace F := Aside0.mk (And.intro (F.out.1.below h) (And.intro (F.out.2.1.below h) (And.intro (blk_below F.out.2.2.1 h) (below_step F.out.2.2.2 h))))
  replace R := Aside0.mk (And.intro (R.out.1.below h) (And.intro (R.out.2.1.below h) (And.intro (R.out.2.2.1.below h) (And.intro (R.out.2.2.2.1.below h) (And.intro (R.out.2.2.2.2.1.below h) (R.out.2.2.2.2.2.below h))))))
  clear h
  go_wp2_with fail
  refine (rfreeV F.out.1 LN.out.1 n rk rb RP.out).mono ?_
  rintro e x23 ⟨rfl, h⟩
  replace F := Aside0.mk (And.intro (F.out.1.below h) (And.intro (F.out.2.1.below h) (And.intro (blk_below F.out.2.2.1 h) (below_step F.out.2.2.2 h))))
  replace R := Aside0.mk (And.intro (R.out.1.below h) (And.intro (R.out.2.1.below h) (And.intro (R.out.2.2.1.below h) (And.intro (R.out.2.2.2.1.below h) (And.intro (R.out.2.2.2.2.1.below h) (R.out.2.2.2.2.2.below h))))))
  clear h
  go_wp2_with fail
  refine (sameV R.out.1 R.out.2.1 LN.out.2.2.2.2.2.1 true ((sameP_iff vl vl).2 rfl)).mono ?_
  rintro e x24 ⟨rfl, h⟩
  replace F := Aside0.mk (And.intro (F.out.1.below h) (And.intro (F.out.2.1.below h) (And.intro (blk_below F.out.2.2.1 h) (below_step F.out.2.2.2 h))))
  replace R := Aside0.mk (And.intro (R.out.1.below h) (And.intro (R.out.2.1.below h) (And.intro (R.out.2.2.1.below h) (And.intro (R.out.2.2.2.1.below h) (And.intro (R.out.2.2.2.2.1.below h) (R.out.2.2.2.2.2.below h))))))
  clear h
  go_wp2_with fail
  refine (sameV R.out.2.2.1 R.out.2.2.2.1 LN.out.2.2.2.2.2.2.1 true ((sameP_iff sl sl).2 rfl)).mono ?_
  rintro e x25 ⟨rfl, h⟩
  replace F := Aside0.mk (And.intro (F.out.1.below h) (And.intro (F.out.2.1.below h) (And.intro (blk_below F.out.2.2.1 h) (below_step F.out.2.2.2 h))))
  replace R := Aside0.mk (And.intro (R.out.1.below h) (And.intro (R.out.2.1.below h) (And.intro (R.out.2.2.1.below h) (And.intro (R.out.2.2.2.1.below h) (And.intro (R.out.2.2.2.2.1.below h) (R.out.2.2.2.2.2.below h))))))
  clear h
  go_wp2_with fail
  refine (same2V R.out.2.2.2.2.1 R.out.2.2.2.2.2 LN.out.2.2.2.2.2.2.2 true ((sameRP_iff dl dl).2 rfl)).mono ?_
  rintro e x26 ⟨rfl, h⟩
  replace F := Aside0.mk (And.intro (F.out.1.below h) (And.intro (F.out.2.1.below h) (And.intro (blk_below F.out.2.2.1 h) (below_step F.out.2.2.2 h))))
  replace R := Aside0.mk (And.intro (R.out.1.below h) (And.intro (R.out.2.1.below h) (And.intro (R.out.2.2.1.below h) (And.intro (R.out.2.2.2.1.below h) (And.intro (R.out.2.2.2.2.1.below h) (R.out.2.2.2.2.2.below h))))))
  clear h
  go_wp2_with fail
  go_ret
  exact ⟨rfl, F.out.2.2.2⟩

theorem agreeV {a b : List S53} {va vb : Value} {w : World} (ha : Rw w a va) (hb : Rw w b vb) (la : a.length ≤ 60) (lb : b.length ≤ 60) (rf rt fr to' n : Int) :
    Calls Try.prog 16 #[va, vb, .agg #[.int .i64 rf, .int .i64 rt], .int .i64 fr, .int .i64 to', .int .i64 n] w fun e w' => e = .returned (.bool true) ∧ Below w.heap.size w w' :=
  agree_walk a b _ _ _ _ _ _ va vb rf rt fr to' n _ _ _ _ _ _ _ _ _ _ _ _ w ⟨ha, hb⟩
    ⟨la, lb, Nat.le_trans (giveP_len a rf rt to') (by omega), Nat.le_trans (takeP_len a rf rt) (by omega), Nat.le_trans (onlyR_len a rf rt) (by omega), Nat.le_trans (overlayP_len a b) (by omega), Nat.le_trans (swapR_len a fr to') (by omega), differP_len a b (by omega) (by omega)⟩
    ⟨rfl⟩ ⟨rfl⟩ ⟨rfl⟩ ⟨rfl⟩ ⟨rfl⟩ ⟨rfl⟩ ⟨rfl⟩ ⟨rfl⟩ ⟨rfl⟩ ⟨rfl⟩ (bne_self_eq_false _) (bne_self_eq_false _) (beq_self_eq_true _)
end Go.Proofs.Ytdflgjgoikofaaa.Bk

set_option linter.unusedVariables false
namespace Go.Proofs.Ytdflgjgoikofaaa.Bk
open Go.RowKit Go.Shelf Go.Proofs.YtdflgjgoikofaaaW.PrintWords Go.Proofs.YtdflgjgoikofaaaW.PrintLast Go.Proofs.YtdflgjgoikofaaaW.PrintMore
open Go.Proofs.Ytdflgjgoikofaaa.Ref Go.Proofs.Ytdflgjgoikofaaa.Pl Go.Proofs.Ytdflgjgoikofaaa.Rg

def Ints (xs : List Value) : Prop := ∀ u ∈ xs, ∃ k, u = .int .i64 k
theorem Ints.set {xs : List Value} (h : Ints xs) (j : Nat) (k : Int) : Ints (xs.set j (.int .i64 k)) := by
  intro u hu
  rcases List.mem_or_eq_of_mem_set hu with hu | rfl
  · exact h u hu
  · exact ⟨k, rfl⟩
theorem Ints.app {xs ys : List Value} (h : Ints xs) (h2 : Ints ys) : Ints (xs ++ ys) := by
  intro u hu
  rcases List.mem_append.1 hu with hu | hu
  · exact h u hu
  · exact h2 u hu
theorem Ints.flat (l : List S53) : Ints (flat l) := by
  induction l with
  | nil => intro u hu; simp [Bk.flat] at hu
  | cons b l ih =>
    intro u hu
    rw [flat_cons] at hu
    simp only [List.mem_cons] at hu
    rcases hu with rfl | rfl | rfl | hu
    · exact ⟨_, rfl⟩
    · exact ⟨_, rfl⟩
    · exact ⟨_, rfl⟩
    · exact ih u hu
theorem Ints.at {xs : List Value} (h : Ints xs) (j : Nat) (hj : j < xs.length) : ∃ k, xs[j]? = some (.int .i64 k) := by
  obtain ⟨k, hk⟩ := h _ (List.getElem_mem hj)
  exact ⟨k, by rw [List.getElem?_eq_getElem hj, hk]⟩
theorem chunk3 (n : Nat) : ∀ xs : List Value, xs.length = n * 3 → Ints xs → ∃ l : List S53, l.length = n ∧ flat l = xs := by
  induction n with
  | zero =>
    intro xs h _
    exact ⟨[], rfl, (List.eq_nil_of_length_eq_zero (by omega)).symm⟩
  | succ n ih =>
    intro xs h hi
    match xs, h with
    | x :: y :: z :: t, h =>
      obtain ⟨a, rfl⟩ := hi x (by simp)
      obtain ⟨b, rfl⟩ := hi y (by simp)
      obtain ⟨c, rfl⟩ := hi z (by simp)
      obtain ⟨l, h1, h2⟩ := ih t (by simp only [List.length_cons] at h; omega) (fun u hu => hi u (by simp [hu]))
      exact ⟨⟨⟨a, b⟩, c⟩ :: l, by simp [h1], by rw [flat_cons, h2]⟩
    | [x, y], h => simp at h; omega
    | [x], h => simp at h; omega
    | [], h => simp at h
theorem Rw_own {w : World} {base n : Nat} {v : Value} {xs : List Value} (h : w.ownsRow base 53 3 v n xs) (hi : Ints xs) : ∃ l : List S53, l.length = n ∧ Rw w l v := by
  obtain ⟨l, rfl, rfl⟩ := chunk3 n xs h.1 hi
  obtain ⟨A, c, rfl, hc, hC⟩ := Kd.R_reads (R_of_flat h)
  exact ⟨l, rfl, ⟨A, c, rfl, hc, hC⟩⟩
theorem C_cells {w : World} {A : Option Addr} {l : List S53} (h : Kd.C k53 w A l.length l) (hpos : 0 < l.length) : ∃ ad, A = some ad ∧ ∀ j u, (flat l)[j]? = some u → w.cell? (ad.add j) = some u := by
  obtain ⟨ad, _, e, _, _, _⟩ := Kd.C_get h z53 0 (by omega) (by omega)
  refine ⟨ad, e, fun j u hj => ?_⟩
  have hlt : j < l.length * 3 := by have := (List.getElem?_eq_some_iff.1 hj).1; rwa [flat_len] at this
  have hi : j / 3 < l.length := by omega
  obtain ⟨ad', c, e', _, hK, hc0⟩ := Kd.C_get h z53 ((j / 3 : Nat) : Int) (by omega) (by omega)
  obtain rfl : ad = ad' := by rw [e] at e'; injection e'
  have hc : ∀ r u, c[r]? = some u → w.cell? (ad.add (((j / 3 : Nat) : Int).toNat * 3 + r)) = some u := hc0
  obtain rfl := k53_open hK
  rw [Int.toNat_natCast] at hc
  obtain ⟨g0, g1, g2⟩ := flat_get l (j / 3) hi
  have hr : j = j / 3 * 3 ∨ j = j / 3 * 3 + 1 ∨ j = j / 3 * 3 + 2 := by omega
  rcases hr with hr | hr | hr
  · rw [hr] at hj ⊢; rw [g0] at hj; rw [← hj]; exact hc 0 _ rfl
  · rw [hr] at hj ⊢; rw [g1] at hj; rw [← hj]; exact hc 1 _ rfl
  · rw [hr] at hj ⊢; rw [g2] at hj; rw [← hj]; exact hc 2 _ rfl
theorem wpList_append_zero {P : Program} (w : World) {ops : Array Oper} {rest : List Oper} {o : Oper} {a : Act} {Q : Exit → Act → World → Prop}
    (hg : o.guard = none) (s x : Operand) (t : TypeId) (hop : o.op = Op.call { callee := Callee.builtin Builtin.append, args := #[s, x], argTypes := #[t, t] })
    (e : TypeId) (i : TypeInfo) (h1 : P.underlying t = some (.slice e)) (h2 : P.info? e = some i)
    (ao : Option Addr) (n cap : Nat) (hn : n ≤ cap) (hs : a.eval s = .slice ao n cap) (A : Option Addr) (c : Nat) (hx : a.eval x = .slice A 0 c)
    (hK : wpList P ops Q rest (a.put o.dst (.slice ao n cap)) w) : wpList P ops Q (o :: rest) a w := by
  refine wpList_plain hg fun K hK' => ?_
  have hr := run_append_zero (P := P) w t o.type e i h1 h2 ao n cap hn A c
  unfold Oper.wp
  simp [execOp, hop, resolve, invoke, builtin, hs, hx, hr, Result.andThen]
  exact hK' _ _ hK

def BentV (w : World) (e : Ending) (w' : World) : Prop := ∃ (l : List S53) (v : Value), e = .returned v ∧ Rw w' l v ∧ l.length ≤ 50 ∧ Below w.heap.size w w'
set_option maxHeartbeats 2000000 in
theorem bent_zero (A : Option Addr) (c : Nat) (how n k : Int) (w : World) : Calls Try.prog 13 #[.slice A 0 c, .int .i64 how, .int .i64 n, .int .i64 k] w (BentV w) := by
  obtain ⟨i0, hi0, hz0, hz1, hz2⟩ := info_parts info53
  go_enter Try.func13, Try.ntmps13
  go_wp2_with (at_builtin; refine wpList_append_zero _ rfl _ _ 24 rfl 53 i0 Try.underlying24 hi0 _ 0 0 (Nat.le_refl _) rfl A c rfl ?_)
  go_ret
  have hr := Rw_block (w.alloc (.cells #[] 53)) [⟨⟨n, k⟩, 0⟩] (by simp) (by simp)
  rw [World.size_alloc] at hr
  exact ⟨[⟨⟨n, k⟩, 0⟩], _, rfl, hr, by simp, ((Below.refl _ w).alloc (Nat.le_refl _) _).alloc (by simp) _⟩
def BentW (base : Nat) (w : World) (e : Ending) (w' : World) : Prop := ∃ (xs : List Value) (m : Nat) (v : Value), e = .returned v ∧ w'.ownsRow base 53 3 v m xs ∧ Ints xs ∧ m ≤ 50 ∧ Below w.heap.size w w'
theorem BentW.to {base : Nat} {w w' : World} {e : Ending} (h : BentW base w e w') : BentV w e w' := by
  obtain ⟨xs, m, v, rfl, h1, h2, h3, h4⟩ := h
  obtain ⟨l, rfl, hl⟩ := Rw_own h1 h2
  exact ⟨l, v, rfl, hl, h3, h4⟩
theorem grown_below {w X Y : World} {base : Nat} (hB : Below w.heap.size w X) (hbase : w.heap.size ≤ base) {v : Value} {m : Nat} {xs : List Value} {e : TypeId} {size : Nat} (hown : X.ownsRow base e size v m xs) (hg : X.grownBy Y v.ownBlock) : Below w.heap.size w Y :=
  hB.grown hg hB.size (fun k hk => Nat.le_trans hbase (own_base hown k hk))

theorem own_pos {w : World} {base n : Nat} {e : TypeId} {size : Nat} {v : Value} {xs : List Value} (h : w.ownsRow base e size v n xs) (hn : 0 < n) : ∃ g cap, v = .slice (some ⟨g, 0, none⟩) n cap ∧ base ≤ g := by
  rcases h.2 with ⟨_, h0⟩ | ⟨g, cap, cur, rfl, hb, _⟩
  · omega
  · exact ⟨g, cap, rfl, hb⟩
theorem own_zero {w : World} {base n : Nat} {e : TypeId} {size : Nat} {v : Value} {xs : List Value} (h : w.ownsRow base e size v (0 + n) ([] ++ xs)) (hn : 0 < n) : ∃ g cap, v = .slice (some ⟨g, 0, none⟩) n cap ∧ base ≤ g ∧ w.ownsRow base e size (.slice (some ⟨g, 0, none⟩) n cap) n xs := by
  rw [Nat.zero_add, List.nil_append] at h
  obtain ⟨g, cap, rfl, hg⟩ := own_pos h hn
  exact ⟨g, cap, rfl, hg, h⟩
theorem pickR' (c n : Int) (w : World) (hc : I64 c) (hn : 0 < n) (r : Int) (hr : pickP c n = r) : Calls Try.prog 35 #[.int .i64 c, .int .i64 n] w fun e w' => e = .returned (.int .i64 r) ∧ ∃ q, w' = w.drewN q := by
  rw [← hr]
  exact pickR_calls c n w hc hn
/-- The row that is bent, and what is known of the world. -/
structure BR (base : Nat) (w X : World) (g n cap : Nat) (xs : List Value) : Prop where
  own : X.ownsRow base 53 3 (.slice (some ⟨g, 0, none⟩) n cap) n xs
  ints : Ints xs
  gb : base ≤ g
  bel : Below base w X
theorem BR.drew {base : Nat} {w X Y : World} {g n cap : Nat} {xs : List Value} (h : BR base w X g n cap xs) (hq : ∃ q, Y = X.drewN q) : BR base w Y g n cap xs := by
  obtain ⟨q, rfl⟩ := hq
  exact ⟨h.own, h.ints, h.gb, pw_below_drewN h.bel q⟩
theorem BR.cell {base : Nat} {w X : World} {g n cap : Nat} {xs : List Value} (h : BR base w X g n cap xs) (j : Nat) (hj : j < n * 3) : ∃ k, X.cell? ⟨g, j, none⟩ = some (.int .i64 k) := by
  obtain ⟨k, hk⟩ := h.ints.at j (by rw [h.own.1]; exact hj)
  exact ⟨k, (h.own.cellAt j hj).trans hk⟩
theorem BR.stored {base : Nat} {w X : World} {g n cap : Nat} {xs : List Value} (h : BR base w X g n cap xs) (j : Nat) (k : Int) : ∃ ys, BR base w (X.setCell ⟨g, j, none⟩ (.int .i64 k)) g n cap ys :=
  ⟨_, (h.own.stored j (.int .i64 k)).1, h.ints.set j k, h.gb, h.bel.setCell (p := ⟨g, j, none⟩) h.gb _⟩
theorem BR.put6 {base : Nat} {w X : World} {g n cap : Nat} {xs : List Value} (h : BR base w X g n cap xs) (a0 a1 a2 a3 a4 a5 : Nat) (v0 v1 v2 v3 v4 v5 : Int) :
    ∃ ys, BR base w ((((((X.setCell ⟨g, a0, none⟩ (.int .i64 v0)).setCell ⟨g, a1, none⟩ (.int .i64 v1)).setCell ⟨g, a2, none⟩ (.int .i64 v2)).setCell ⟨g, a3, none⟩ (.int .i64 v3)).setCell ⟨g, a4, none⟩ (.int .i64 v4)).setCell ⟨g, a5, none⟩ (.int .i64 v5)).drew g n cap ys := by
  obtain ⟨_, h⟩ := h.stored a0 v0
  obtain ⟨_, h⟩ := h.stored a1 v1
  obtain ⟨_, h⟩ := h.stored a2 v2
  obtain ⟨_, h⟩ := h.stored a3 v3
  obtain ⟨_, h⟩ := h.stored a4 v4
  obtain ⟨_, h⟩ := h.stored a5 v5
  exact ⟨_, h.drew ⟨1, rfl⟩⟩
theorem BR.done {w X : World} {g n cap : Nat} {xs : List Value} (h : BR w.heap.size w X g n cap xs) (hn : n ≤ 50) : BentW w.heap.size w (.returned (.slice (some ⟨g, 0, none⟩) n cap)) X := ⟨xs, n, _, rfl, h.own, h.ints, hn, h.bel⟩

set_option maxHeartbeats 4000000 in
set_option maxRecDepth 100000 in
theorem bent_some (l : List S53) (A : Option Addr) (c : Nat) (how n k : Int) (w : World) (hl : Kd.C k53 w A l.length l) (hc : l.length ≤ c) (h40 : l.length ≤ 40) (hpos : 0 < l.length) (h1 : I64 how) (h2 : I64 n) (h3 : I64 k) :
    Calls Try.prog 13 #[.slice A l.length c, .int .i64 how, .int .i64 n, .int .i64 k] w (BentW w.heap.size w) := by
  obtain ⟨ad, rfl, hcell⟩ := C_cells hl hpos
  obtain ⟨i0, hi0, hz0, hz1, hz2⟩ := info_parts info53
  have HH := Aside0.mk h1
  have HN := Aside0.mk h2
  have HK := Aside0.mk h3
  have HLP := Aside0.mk hpos
  have HP := pickP_range how 6 (by omega)
  have HJ := pickP_range k (l.length : Int) (by omega)
  have hz : ((l.length : Int) == 0) = false := beq_eq_false_iff_ne.mpr (by omega)
  have hcell' : ∀ j u, (flat l)[j]? = some u → (w.alloc (.cells #[] 53)).cell? (ad.add j) = some u := fun j u h => cell_alloc_keep w _ _ _ (hcell j u h)
  clear hl hc h1 h2 h3 hcell
  go_enter Try.func13, Try.ntmps13
  go_wp2_with (at_builtin; refine wpList_append_grows _ rfl _ _ 24 rfl 53 i0 _ 3 24 Try.underlying24 hi0 hz0 hz1 hz2 rfl (by omega) (some ⟨w.heap.size, 0, none⟩) 0 0 [] rfl (by simp) rfl (by simp) ad l.length c (flat l) rfl (flat_len l) hcell' (flat_one l) (by omega) (by unfold maxLen; omega) (by omega) ?_; intro v' w' hown hgrow; obtain ⟨g, cap, rfl, hg, hown2⟩ := own_zero hown HLP.out)
  have R := Aside0.mk (BR.mk (own_weaken hown2 (show w.heap.size ≤ (w.alloc (.cells #[] 53)).heap.size by simp)) (Ints.flat l) (Nat.le_trans (by simp) hg) (((Below.refl _ w).alloc (Nat.le_refl _) (.cells #[] 53)).grown hgrow (by simp) (fun k hk => by simp at hk)))
  have HL := Aside0.mk (And.intro HLP.out h40)
  clear hown hown2 hgrow hg hcell' hpos h40
  generalize flat l = xs at R
  generalize l.length = m at *
  obtain ⟨j, hj⟩ : ∃ j : Nat, pickP k (m : Int) = (j : Int) := ⟨(pickP k (m : Int)).toNat, by omega⟩
  rw [hj] at HJ
  have PJ := Aside0.mk (fun X => pickR' k (m : Int) X HK.out (by have := HL.out; omega) (j : Int) hj)
  generalize hp : pickP how 6 = p at HP
  have PP := Aside0.mk (fun X => pickR' how 6 X HH.out (by omega) p hp)
  have q1 := eq_true (show (j : Int) < (m : Int) by omega)
  have q2 := eq_true (show (0 : Int) ≤ (j : Int) by omega)
  have j9 : j < m := by omega
  have m9 : m ≤ 40 := HL.out.2
  clear hj HJ hp
  go_wp2_with fail
  refine (PJ.out _).mono ?_
  rintro e w2 ⟨rfl, hq⟩
  replace R := Aside0.mk (R.out.drew hq)
  clear hq
  go_wp2_with fail
  refine (PP.out _).mono ?_
  rintro e w3 ⟨rfl, hq⟩
  replace R := Aside0.mk (R.out.drew hq)
  clear hq
  have hpc : p = 0 ∨ p = 1 ∨ p = 2 ∨ p = 3 ∨ p = 4 ∨ p = 5 := by omega
  clear HP
  rcases hpc with rfl | rfl | rfl | rfl | rfl | rfl
  · obtain ⟨u, c0⟩ := R.out.cell (j * 3) (by omega)
    have f0 := R.out.own.frozenAt (j * 3)
    go_wp2_with fail
    go_ret
    obtain ⟨ys, hy⟩ := R.out.stored (j * 3) n
    exact hy.done (by omega)
  · obtain ⟨u, c0⟩ := R.out.cell (j * 3 + 1) (by omega)
    have f0 := R.out.own.frozenAt (j * 3 + 1)
    go_wp2_with fail
    go_ret
    obtain ⟨ys, hy⟩ := R.out.stored (j * 3 + 1) n
    exact hy.done (by omega)
  · obtain ⟨u, c0⟩ := R.out.cell (j * 3 + 2) (by omega)
    have f0 := R.out.own.frozenAt (j * 3 + 2)
    go_wp2_with fail
    go_ret
    obtain ⟨ys, hy⟩ := R.out.stored (j * 3 + 2) n
    exact hy.done (by omega)
  · obtain ⟨u0, c0⟩ := R.out.cell (j * 3) (by omega)
    obtain ⟨u1, c1⟩ := R.out.cell (j * 3 + 1) (by omega)
    obtain ⟨u2, c2⟩ := R.out.cell (j * 3 + 2) (by omega)
    go_wp2_with (at_builtin; refine wpList_append_lies _ rfl _ _ 24 rfl w.heap.size 53 i0 _ 3 24 Try.underlying24 hi0 hz0 hz1 hz2 rfl (by omega) _ m xs rfl (World.ownsRow.alloc R.out.own _) ⟨w3.heap.size, 0, none⟩ 1 1 (cells3 ⟨⟨u0, u1⟩, u2⟩) rfl rfl (cells_new3 w3 ⟨⟨u0, u1⟩, u2⟩) (by simp [cells3, Value.oneCell']) (by omega) (by unfold maxLen; omega) (by omega) (by have := R.out.bel.size; simp; omega) (w3.heap.size + 1) (by simp) ?_; intro g2 cap2 w4 hown1 hgrow hat hlt)
    go_ret
    exact ⟨_, m + 1, _, rfl, hown1, R.out.ints.app (Ints.flat [⟨⟨u0, u1⟩, u2⟩]), by omega, grown_below (R.out.bel.alloc R.out.bel.size _) (Nat.le_refl _) (World.ownsRow.alloc R.out.own _) hgrow⟩
  · obtain ⟨u0, c0⟩ := R.out.cell (j * 3) (by omega)
    obtain ⟨u1, c1⟩ := R.out.cell (j * 3 + 1) (by omega)
    obtain ⟨u2, c2⟩ := R.out.cell (j * 3 + 2) (by omega)
    obtain ⟨x0, d0⟩ := R.out.cell 0 (by omega)
    obtain ⟨x1, d1⟩ := R.out.cell 1 (by omega)
    obtain ⟨x2, d2⟩ := R.out.cell 2 (by omega)
    have f0 := R.out.own.frozenAt 0
    have f1 := R.out.own.frozenAt 1
    have f2 := R.out.own.frozenAt 2
    have f3 := R.out.own.frozenAt (j * 3)
    have f4 := R.out.own.frozenAt (j * 3 + 1)
    have f5 := R.out.own.frozenAt (j * 3 + 2)
    have q3 := eq_true (show (0 : Int) < (m : Int) by omega)
    by_cases hj0 : j = 0
    · subst hj0
      simp only [Nat.zero_mul, Nat.zero_add] at c0 c1 c2 f3 f4 f5
      clear f3 f4 f5
      go_wp2_with fail
      go_region_with (fail)
      all_goals (go_wp2_with fail; go_ret; obtain ⟨ys, hy⟩ := R.out.put6 0 1 2 0 1 2 x0 x1 x2 x0 x1 x2; exact hy.done (by omega))
    · have n1 : ∀ a b : Nat, a < 3 → (⟨g, a, none⟩ : Addr) ≠ ⟨g, j * 3 + b, none⟩ := fun a b ha e => by injection e with e1 e2; omega
      have o00 := n1 0 0 (by omega)
      have o01 := n1 0 1 (by omega)
      have o02 := n1 0 2 (by omega)
      have o10 := n1 1 0 (by omega)
      have o11 := n1 1 1 (by omega)
      have o12 := n1 1 2 (by omega)
      have o20 := n1 2 0 (by omega)
      have o21 := n1 2 1 (by omega)
      have o22 := n1 2 2 (by omega)
      simp only [Nat.add_zero] at o00 o10 o20
      have e0 : ∀ v0 v1 v2 : Value, (((w3.setCell ⟨g, 0, none⟩ v0).setCell ⟨g, 1, none⟩ v1).setCell ⟨g, 2, none⟩ v2).cell? ⟨g, j * 3, none⟩ = some (.int .i64 u0) := fun v0 v1 v2 => (World.cell?_setCell_other _ _ _ _ o20).trans ((World.cell?_setCell_other _ _ _ _ o10).trans ((World.cell?_setCell_other _ _ _ _ o00).trans c0))
      clear n1
      go_wp2_with fail
      go_region_with (fail)
      all_goals (go_wp2_with fail; go_ret; obtain ⟨ys, hy⟩ := R.out.put6 0 1 2 (j * 3) (j * 3 + 1) (j * 3 + 2) u0 u1 u2 x0 x1 x2; exact hy.done (by omega))
  · have hzb := pickP_range n 4 (by omega)
    obtain ⟨z, hz4⟩ : ∃ z : Nat, pickP n 4 = (z : Int) := ⟨(pickP n 4).toNat, by omega⟩
    rw [hz4] at hzb
    have PZ := Aside0.mk (fun X => pickR' n 4 X HN.out (by omega) (z : Int) hz4)
    have z3 : z < 4 := by omega
    have HB := Aside0.mk R.out.bel
    clear hzb hz4 R PJ PP HL q1 q2 j9 m9 hz
    go_wp2_with fail
    go_loopg [9, 11] (39 + z) (fun kq v9 v11 wr => ∃ (i : Nat) (ys : List Value), v11 = .int .i64 (i : Int) ∧ Aside0 (i + kq = 39 + z) ∧ Aside0 (wr.ownsRow w.heap.size 53 3 v9 i ys ∧ Ints ys ∧ Below w.heap.size w wr))
    case atStart => exact ⟨0, [], rfl, ⟨by omega⟩, ⟨World.ownsRow_nil _ _ _ _, fun u hu => by simp at hu, HB.out⟩⟩
    case round =>
      obtain ⟨i, ys, rfl, HKQ, HO⟩ := hrel
      have i9 : i ≤ 42 := by have := HKQ.out; omega
      go_wp2_with fail
      refine (PZ.out _).mono ?_
      rintro e w5 ⟨rfl, q, rfl⟩
      by_cases hi : i < 39 + z
      · have hib : decide ((i : Int) < 39 + (z : Int)) = true := decide_eq_true (by omega)
        have HI := Aside0.mk hi
        clear hi
        go_wp2_with (at_builtin; refine wpList_append_lies _ rfl _ _ 24 rfl w.heap.size 53 i0 _ 3 24 Try.underlying24 hi0 hz0 hz1 hz2 rfl (by omega) _ i ys rfl (World.ownsRow.alloc (w := wr.drewN q) HO.out.1 _) ⟨wr.heap.size, 0, none⟩ 1 1 (cells3 ⟨⟨2 * (i : Int), 2 * (i : Int) + 1⟩, 1⟩) rfl rfl (cells_new3 (wr.drewN q) ⟨⟨2 * (i : Int), 2 * (i : Int) + 1⟩, 1⟩) (by simp [cells3, Value.oneCell']) (by omega) (by unfold maxLen; omega) (by omega) (by have := HO.out.2.2.size; simp; omega) (wr.heap.size + 1) (by simp) ?_; intro g2 cap2 w4 hown1 hgrow hat hlt)
        have HO2 := Aside0.mk (And.intro hown1 (And.intro (HO.out.2.1.app (Ints.flat [⟨⟨2 * (i : Int), 2 * (i : Int) + 1⟩, 1⟩])) (grown_below ((pw_below_drewN HO.out.2.2 q).alloc HO.out.2.2.size _) (Nat.le_refl _) (World.ownsRow.alloc (w := wr.drewN q) HO.out.1 _) hgrow)))
        clear hown1 hgrow hat hlt
        go_roundg (39 + z - (i + 1))
        case measure => have := HKQ.out; have := HI.out; omega
        case rel => exact ⟨i + 1, _, by go_num, ⟨by have := HKQ.out; have := HI.out; omega⟩, HO2⟩
      · have hib : decide ((i : Int) < 39 + (z : Int)) = false := decide_eq_false (by omega)
        clear hi
        go_wp2_with fail
        go_ret
        exact ⟨ys, i, _, rfl, HO.out.1, HO.out.2.1, by omega, pw_below_drewN HO.out.2.2 q⟩
/-- Bent of a map: some list of blocks. -/
theorem bentV {l : List S53} {v : Value} {w : World} (h : Rw w l v) (h40 : l.length ≤ 40) (how n k : Int) (h1 : I64 how) (h2 : I64 n) (h3 : I64 k) : Calls Try.prog 13 #[v, .int .i64 how, .int .i64 n, .int .i64 k] w (BentV w) := by
  obtain ⟨A, c, rfl, hc, hC⟩ := h
  by_cases h0 : l.length = 0
  · rw [h0]; exact bent_zero A c how n k w
  · exact (bent_some l A c how n k w hC hc h40 (by omega) h1 h2 h3).mono fun e w' h => h.to
end Go.Proofs.Ytdflgjgoikofaaa.Bk

set_option linter.unusedVariables false
namespace Go.Proofs.Ytdflgjgoikofaaa.Bk
open Go.RowKit Go.Shelf Go.Proofs.YtdflgjgoikofaaaW.PrintWords Go.Proofs.YtdflgjgoikofaaaW.PrintLast Go.Proofs.YtdflgjgoikofaaaW.PrintMore
open Go.Proofs.Ytdflgjgoikofaaa.Ref Go.Proofs.Ytdflgjgoikofaaa.Pl Go.Proofs.Ytdflgjgoikofaaa.Rg

theorem nearV {l : List S53} {v : Value} {w : World} (h : Rw w l v) (hv : validP l = true) (which n : Int) (hw : I64 which) (hn : I64 n) : Calls Try.prog 15 #[v, .int .i64 which, .int .i64 n] w fun e w' => e = .returned (.int .i64 (nearP l which n)) ∧ Below w.heap.size w w' := by
  obtain ⟨A, c, rfl, hc, hC⟩ := h
  exact dialtoneref13_Near.calls 2 A c l which n _ w hC hc (Near_f l which n hv hw hn 2 (by omega))
theorem pickV (c n : Int) (w : World) (hc : I64 c) (hn : 0 < n) : Calls Try.prog 17 #[.int .i64 c, .int .i64 n] w fun e w' => e = .returned (.int .i64 (pickP c n)) ∧ Below w.heap.size w w' :=
  (dialtonelaw13_pick.calls c n _ w (pick_law c n hc hn)).mono fun e w' h => by
    obtain ⟨h1, q, rfl⟩ := h
    exact ⟨h1, pw_below_drewN (Below.refl _ _) q⟩
theorem madeV (xs : List (Int × Int × Int)) (A : Option Addr) (c : Nat) (w : World) (hx : Trip w A xs) (hc : xs.length ≤ c) (hn : xs.length ≤ 9223372036854775807) :
    Calls Try.prog 12 #[.slice A xs.length c] w fun e w' => ∃ v, e = .returned v ∧ Rw w' (madeP xs) v ∧ Below w.heap.size w w' :=
  (made_calls xs A c w hx hc hn).mono fun e w' h => by
    obtain ⟨A', c', rfl, h1, h2, h3⟩ := h
    exact ⟨_, rfl, ⟨A', c', rfl, h2, h1⟩, h3⟩
theorem Trip.below {w w' : World} {A : Option Addr} {xs : List (Int × Int × Int)} (h : Trip w A xs) (hb : Below w.heap.size w w') : Trip w' A xs :=
  ⟨h.1, fun h0 => by
    obtain ⟨ad, rfl, h2⟩ := h.2 h0
    exact ⟨ad, rfl, fun i hi => ⟨pw_cell_below hb (h2 i hi).1, pw_cell_below hb (h2 i hi).2.1, pw_cell_below hb (h2 i hi).2.2⟩⟩⟩

set_option maxHeartbeats 8000000 in
set_option maxRecDepth 100000 in
theorem blockFree_calls (xs : List (Int × Int × Int)) (A : Option Addr) (c : Nat) (which n t btw : Int) (w : World) (hx : Trip w A xs) (hc : xs.length ≤ c) (hl : xs.length ≤ 9223372036854775807) (hwh : I64 which) (hn : I64 n) (ht : I64 t) (hb : I64 btw) :
    Calls Try.prog 10 #[.slice A xs.length c, .int .i64 which, .int .i64 n, .int .i64 t, .int .i64 btw] w fun e w' => e = .returned (.bool true) ∧ Below w.heap.size w w' := by
  have HX := Aside0.mk hx
  have HC := Aside0.mk hc
  have HL := Aside0.mk hl
  have HWH := Aside0.mk hwh
  have HN := Aside0.mk hn
  have HT := Aside0.mk ht
  have HBT := Aside0.mk hb
  clear hx hc hl hwh hn ht hb
  obtain ⟨E, e1, e2, e3⟩ := made_spec12 xs
  have HE1 := Aside0.mk e1
  have HE2 := Aside0.mk e2
  have HE3 := Aside0.mk e3
  clear e1 e2 e3
  go_enter Try.func10, Try.ntmps10
  go_wp2_with fail
  refine (sane_calls _).mono ?_
  rintro e w1 ⟨rfl, h1⟩
  have HB := Aside0.mk h1
  clear h1
  go_wp2_with fail
  refine (madeV xs A c _ (HX.out.below HB.out) HC.out HL.out).mono ?_
  rintro e w2 ⟨v, rfl, r2, h2⟩
  generalize madeP xs = a at *
  have RA := Aside0.mk r2
  replace HB := Aside0.mk (below_step HB.out h2)
  clear h2 r2
  go_wp2_with fail
  refine (nearV RA.out HE2.out which n HWH.out HN.out).mono ?_
  rintro e w3 ⟨rfl, h3⟩
  replace RA := Aside0.mk (RA.out.below h3)
  replace HB := Aside0.mk (below_step HB.out h3)
  clear h3
  generalize nearP a which n = k
  by_cases hk : 0 ≤ k ∧ k ≤ 99999999
  · obtain ⟨k0, k1⟩ := hk
    have b0 : decide (k < 0) = false := decide_eq_false (by omega)
    have b1 : decide (99999999 < k) = false := decide_eq_false (by omega)
    rcases free_spec HE2.out ⟨k0, k1⟩ with ⟨f1, f2⟩ | ⟨m, f1, f2, f3, f4, f5⟩
    · have F1 := Aside0.mk f1
      have hp := pickP_range btw (100000000 - k) (by omega)
      have hh := f2 (k + pickP btw (100000000 - k)) (by omega) (by omega)
      have HP := Aside0.mk hp
      have HH := Aside0.mk hh
      have hpos : 0 < 100000000 - k := by omega
      clear f1 f2 hh
      go_wp2_with fail
      refine (freeV RA.out k 0 false F1.out).mono ?_
      rintro e w4 ⟨rfl, h4⟩
      replace RA := Aside0.mk (RA.out.below h4)
      replace HB := Aside0.mk (below_step HB.out h4)
      clear h4
      go_wp2_with fail
      refine (pickV btw _ _ HBT.out hpos).mono ?_
      rintro e w5 ⟨rfl, h5⟩
      replace RA := Aside0.mk (RA.out.below h5)
      replace HB := Aside0.mk (below_step HB.out h5)
      clear h5
      generalize pickP btw (100000000 - k) = z at *
      go_wp2_with fail
      refine (holderV RA.out _ (hold a (k + z)) (holderL_valid HE2.out _)).mono ?_
      rintro e w6 ⟨rfl, h6⟩
      replace HB := Aside0.mk (below_step HB.out h6)
      clear h6
      have hz : decide (0 ≤ hold a (k + z)) = true := decide_eq_true HH.out
      generalize hold a (k + z) = y at *
      go_wp2_with fail
      go_ret
      exact ⟨rfl, HB.out⟩
    · have F1 := Aside0.mk f1
      have F4 := Aside0.mk f4
      replace f5 := Aside0.mk f5
      have K0 := Aside0.mk (And.intro k0 (And.intro k1 (And.intro f2 f3)))
      have b2 : decide (m < k) = false := decide_eq_false (by omega)
      have b3 : decide (99999999 < m) = false := decide_eq_false (by omega)
      clear f1 f4
      go_wp2_with fail
      refine (freeV RA.out k m true F1.out).mono ?_
      rintro e w4 ⟨rfl, h4⟩
      replace RA := Aside0.mk (RA.out.below h4)
      replace HB := Aside0.mk (below_step HB.out h4)
      clear h4
      go_wp2_with fail
      refine (holderV RA.out m (-1) ((holderL_valid HE2.out _).trans F4.out)).mono ?_
      rintro e w5 ⟨rfl, h5⟩
      replace RA := Aside0.mk (RA.out.below h5)
      replace HB := Aside0.mk (below_step HB.out h5)
      clear h5
      by_cases hkm : k < m
      · have b4 : decide (k < m) = true := decide_eq_true hkm
        have hpos : 0 < m - k := by omega
        have hp := pickP_range btw (m - k) hpos
        have hh := f5.out (k + pickP btw (m - k)) (by omega) (by omega)
        have HH := Aside0.mk hh
        clear hh
        go_wp2_with fail
        refine (pickV btw _ _ HBT.out hpos).mono ?_
        rintro e w6 ⟨rfl, h6⟩
        replace RA := Aside0.mk (RA.out.below h6)
        replace HB := Aside0.mk (below_step HB.out h6)
        clear h6
        generalize pickP btw (m - k) = z at *
        go_wp2_with fail
        refine (holderV RA.out _ (hold a (k + z)) (holderL_valid HE2.out _)).mono ?_
        rintro e wh ⟨rfl, hh6⟩
        replace RA := Aside0.mk (RA.out.below hh6)
        replace HB := Aside0.mk (below_step HB.out hh6)
        clear hh6
        have hz : decide (hold a (k + z) < 0) = false := decide_eq_false (by have := HH.out; omega)
        generalize hold a (k + z) = y at *
        go_wp2_with fail
        refine (pickV t 8 _ HT.out (by omega)).mono ?_
        rintro e w7 ⟨rfl, h7⟩
        replace RA := Aside0.mk (RA.out.below h7)
        replace HB := Aside0.mk (below_step HB.out h7)
        clear h7
        obtain ⟨out, g1, g2, g3, g4⟩ := give_spec HE2.out HE3.out (f := m) (t := m + 1) (c := pickP t 8) (by simp only [rangeB, Bool.and_eq_true, decide_eq_true_eq]; omega) (carr_pick8 t) (by have := HE1.out; omega)
        have hp8 := pickP_range t 8 (by omega)
        generalize pickP t 8 = c8 at *
        have G1 := Aside0.mk g1
        have G2 := Aside0.mk g2
        have hfree := free_spec g2 (n := k) (by have := K0.out; omega)
        have hcase : freeP out k = (0, false) ∨ ∃ j, freeP out k = (j, true) ∧ m < j := by
          rcases hfree with ⟨q1, _⟩ | ⟨j, q1, q2, q3, q4, _⟩
          · exact .inl q1
          · refine .inr ⟨j, q1, ?_⟩
            rw [g3 j] at q4
            by_cases hj : m ≤ j ∧ j < m + 1
            · rw [if_pos hj] at q4; omega
            · rw [if_neg hj] at q4
              by_cases hlt : j < m
              · have := f5.out j q2 hlt; omega
              · omega
        have HCASE := Aside0.mk hcase
        clear g1 g2 g3 g4 hfree hp8 hcase
        go_wp2_with fail
        refine (giveV RA.out m (m + 1) c8 out 0 G1.out).mono ?_
        rintro e w8 ⟨v8, rfl, r8, h8⟩
        have RO := Aside0.mk r8
        replace HB := Aside0.mk (below_step HB.out h8)
        clear r8 h8
        go_wp2_with fail
        rcases HCASE.out with q1 | ⟨j, q1, q2⟩
        · have Q1 := Aside0.mk q1
          clear q1
          refine (freeV RO.out k 0 false Q1.out).mono ?_
          rintro e w9 ⟨rfl, h9⟩
          replace HB := Aside0.mk (below_step HB.out h9)
          clear h9
          go_wp2_with fail
          go_ret
          exact ⟨rfl, HB.out⟩
        · have Q1 := Aside0.mk q1
          have hjb : decide (m < j) = true := decide_eq_true q2
          clear q1 q2
          refine (freeV RO.out k j true Q1.out).mono ?_
          rintro e w9 ⟨rfl, h9⟩
          replace HB := Aside0.mk (below_step HB.out h9)
          clear h9
          go_wp2_with fail
          go_ret
          exact ⟨rfl, HB.out⟩
      · have b4 : decide (k < m) = false := decide_eq_false hkm
        go_wp2_with fail
        refine (pickV t 8 _ HT.out (by omega)).mono ?_
        rintro e w7 ⟨rfl, h7⟩
        replace RA := Aside0.mk (RA.out.below h7)
        replace HB := Aside0.mk (below_step HB.out h7)
        clear h7
        obtain ⟨out, g1, g2, g3, g4⟩ := give_spec HE2.out HE3.out (f := m) (t := m + 1) (c := pickP t 8) (by simp only [rangeB, Bool.and_eq_true, decide_eq_true_eq]; omega) (carr_pick8 t) (by have := HE1.out; omega)
        have hp8 := pickP_range t 8 (by omega)
        generalize pickP t 8 = c8 at *
        have G1 := Aside0.mk g1
        have G2 := Aside0.mk g2
        have hfree := free_spec g2 (n := k) (by have := K0.out; omega)
        have hcase : freeP out k = (0, false) ∨ ∃ j, freeP out k = (j, true) ∧ m < j := by
          rcases hfree with ⟨q1, _⟩ | ⟨j, q1, q2, q3, q4, _⟩
          · exact .inl q1
          · refine .inr ⟨j, q1, ?_⟩
            rw [g3 j] at q4
            by_cases hj : m ≤ j ∧ j < m + 1
            · rw [if_pos hj] at q4; omega
            · rw [if_neg hj] at q4
              by_cases hlt : j < m
              · have := f5.out j q2 hlt; omega
              · omega
        have HCASE := Aside0.mk hcase
        clear g1 g2 g3 g4 hfree hp8 hcase
        go_wp2_with fail
        refine (giveV RA.out m (m + 1) c8 out 0 G1.out).mono ?_
        rintro e w8 ⟨v8, rfl, r8, h8⟩
        have RO := Aside0.mk r8
        replace HB := Aside0.mk (below_step HB.out h8)
        clear r8 h8
        go_wp2_with fail
        rcases HCASE.out with q1 | ⟨j, q1, q2⟩
        · have Q1 := Aside0.mk q1
          clear q1
          refine (freeV RO.out k 0 false Q1.out).mono ?_
          rintro e w9 ⟨rfl, h9⟩
          replace HB := Aside0.mk (below_step HB.out h9)
          clear h9
          go_wp2_with fail
          go_ret
          exact ⟨rfl, HB.out⟩
        · have Q1 := Aside0.mk q1
          have hjb : decide (m < j) = true := decide_eq_true q2
          clear q1 q2
          refine (freeV RO.out k j true Q1.out).mono ?_
          rintro e w9 ⟨rfl, h9⟩
          replace HB := Aside0.mk (below_step HB.out h9)
          clear h9
          go_wp2_with fail
          go_ret
          exact ⟨rfl, HB.out⟩
  · have hf : freeP a k = (0, false) := by unfold freeP; rw [if_neg (fun h => hk ⟨h.2.1, h.2.2⟩)]
    have HF := Aside0.mk hf
    have HK := Aside0.mk hk
    clear hf
    by_cases h0 : k < 0
    · have b0 : decide (k < 0) = true := decide_eq_true h0
      clear hk
      go_wp2_with fail
      refine (freeV RA.out k 0 false HF.out).mono ?_
      rintro e w4 ⟨rfl, h4⟩
      replace HB := Aside0.mk (below_step HB.out h4)
      clear h4
      go_wp2_with fail
      go_ret
      exact ⟨rfl, HB.out⟩
    · have b0 : decide (k < 0) = false := decide_eq_false h0
      have b1 : decide (99999999 < k) = true := decide_eq_true (by omega)
      clear hk h0
      go_wp2_with fail
      refine (freeV RA.out k 0 false HF.out).mono ?_
      rintro e w4 ⟨rfl, h4⟩
      replace HB := Aside0.mk (below_step HB.out h4)
      clear h4
      go_wp2_with fail
      go_ret
      exact ⟨rfl, HB.out⟩
end Go.Proofs.Ytdflgjgoikofaaa.Bk

set_option linter.unusedVariables false
namespace Go.Proofs.Ytdflgjgoikofaaa.Bk
open Go.RowKit Go.Shelf Go.Proofs.YtdflgjgoikofaaaW.PrintWords Go.Proofs.YtdflgjgoikofaaaW.PrintLast Go.Proofs.YtdflgjgoikofaaaW.PrintMore
open Go.Proofs.Ytdflgjgoikofaaa.Ref Go.Proofs.Ytdflgjgoikofaaa.Pl Go.Proofs.Ytdflgjgoikofaaa.Rg
attribute [local go_sem high] run_min_min run_max_max

/-- A call that yields a number. -/
@[reducible] def NumC (f : FuncId) (args : Array Value) (k : Int) : Prop := ∀ w', Calls Try.prog f args w' fun e w'' => e = .returned (.int .i64 k) ∧ Below w'.heap.size w' w''

set_option maxHeartbeats 16000000 in
set_option maxRecDepth 100000 in
theorem matches_walk (xs ys : List (Int × Int × Int)) (raw rw a b : List S53) (A B R : Option Addr) (ca cb cr kr : Nat) (b0 b1 b2 r0 r1 fr to' n wh p0 p1 pf pt ka kb : Int) (w : World)
    (F0 : Aside0 (Trip w A xs ∧ Trip w B ys ∧ Rw w rw (.slice R kr cr)))
    (mr1 : min (raw.length : Int) 42 = (kr : Int)) (mr2 : (0 ≤ (kr : Int)) = True) (mr3 : ((kr : Int) ≤ (cr : Int)) = True)
    (MXA : Aside0 (∀ w', Trip w' A xs → Calls Try.prog 12 #[.slice A xs.length ca] w' fun e w'' => ∃ v, e = .returned v ∧ Rw w'' a v ∧ Below w'.heap.size w' w''))
    (MYA : Aside0 (∀ w', Trip w' B ys → Calls Try.prog 12 #[.slice B ys.length cb] w' fun e w'' => ∃ v, e = .returned v ∧ Rw w'' b v ∧ Below w'.heap.size w' w''))
    (PCA : Aside0 (∀ w', Calls Try.prog 14 #[.int .i64 r0, .int .i64 r1] w' fun e w'' => e = .returned (.agg #[.int .i64 p0, .int .i64 p1]) ∧ Below w'.heap.size w' w''))
    (PF : Aside0 (NumC 17 #[.int .i64 fr, .int .i64 8] pf)) (PT : Aside0 (NumC 17 #[.int .i64 to', .int .i64 8] pt))
    (NA : Aside0 (∀ w' v, Rw w' a v → Calls Try.prog 15 #[v, .int .i64 wh, .int .i64 n] w' fun e w'' => e = .returned (.int .i64 ka) ∧ Below w'.heap.size w' w''))
    (NB : Aside0 (∀ w' v, Rw w' b v → Calls Try.prog 15 #[v, .int .i64 wh, .int .i64 n] w' fun e w'' => e = .returned (.int .i64 kb) ∧ Below w'.heap.size w' w''))
    (IB : Aside0 (I64 b0 ∧ I64 b1 ∧ I64 b2)) (LN : Aside0 (a.length ≤ 40 ∧ b.length ≤ 40 ∧ rw.length ≤ 60)) :
    Calls Try.prog 3 #[.slice A xs.length ca, .slice B ys.length cb, .agg #[.int .i64 b0, .int .i64 b1, .int .i64 b2], .slice R raw.length cr, .agg #[.int .i64 r0, .int .i64 r1], .int .i64 fr, .int .i64 to', .int .i64 n, .int .i64 wh] w fun e w' => e = .returned (.bool true) ∧ Below w.heap.size w w' := by
  have h1 := (Below.refl _ w).alloc (Nat.le_refl _) (.cells #[.int .i64 b0, .int .i64 b1, .int .i64 b2] 23)
  have h2 := (Below.refl _ (w.alloc (.cells #[.int .i64 b0, .int .i64 b1, .int .i64 b2] 23))).alloc (Nat.le_refl _) (.cells #[.int .i64 r0, .int .i64 r1] 26)
  have hr := blk_new (w.alloc (.cells #[.int .i64 b0, .int .i64 b1, .int .i64 b2] 23)) (.cells #[.int .i64 r0, .int .i64 r1] 26)
  rw [World.size_alloc] at hr
  have F := Aside0.mk (And.intro ((F0.out.1.below h1).below h2) (And.intro ((F0.out.2.1.below h1).below h2) (And.intro ((F0.out.2.2.below h1).below h2) (And.intro (blk_below (blk_new w (.cells #[.int .i64 b0, .int .i64 b1, .int .i64 b2] 23)) h2) (And.intro hr (below_step h1 h2))))))
  clear h1 h2 hr F0
  go_enter Try.func3, Try.ntmps3
  go_wp2_with fail
  refine (sane_calls _).mono ?_
  rintro e x1 ⟨rfl, h⟩
  replace F := Aside0.mk (And.intro (F.out.1.below h) (And.intro (F.out.2.1.below h) (And.intro (F.out.2.2.1.below h) (And.intro (blk_below F.out.2.2.2.1 h) (And.intro (blk_below F.out.2.2.2.2.1 h) (below_step F.out.2.2.2.2.2 h))))))
  clear h
  go_wp2_with fail
  refine (MXA.out _ F.out.1).mono ?_
  rintro e x2 ⟨va, rfl, r, h⟩
  replace F := Aside0.mk (And.intro (r) (And.intro (F.out.2.1.below h) (And.intro (F.out.2.2.1.below h) (And.intro (blk_below F.out.2.2.2.1 h) (And.intro (blk_below F.out.2.2.2.2.1 h) (below_step F.out.2.2.2.2.2 h))))))
  clear h r
  go_wp2_with fail
  refine (MYA.out _ F.out.2.1).mono ?_
  rintro e x3 ⟨vb, rfl, r, h⟩
  replace F := Aside0.mk (And.intro (F.out.1.below h) (And.intro (r) (And.intro (F.out.2.2.1.below h) (And.intro (blk_below F.out.2.2.2.1 h) (And.intro (blk_below F.out.2.2.2.2.1 h) (below_step F.out.2.2.2.2.2 h))))))
  clear h r
  have c0 : x3.cell? ⟨w.heap.size, 0, none⟩ = some (.int .i64 b0) := (blk_cell F.out.2.2.2.1 0).trans rfl
  have c1 : x3.cell? ⟨w.heap.size, 1, none⟩ = some (.int .i64 b1) := (blk_cell F.out.2.2.2.1 1).trans rfl
  have c2 : x3.cell? ⟨w.heap.size, 2, none⟩ = some (.int .i64 b2) := (blk_cell F.out.2.2.2.1 2).trans rfl
  go_wp2_with fail
  clear c0 c1 c2
  refine (bentV F.out.1 LN.out.1 b0 b1 b2 IB.out.1 IB.out.2.1 IB.out.2.2).mono ?_
  rintro e x4 ⟨ol, vo, rfl, r, lo, h⟩
  replace F := Aside0.mk (And.intro (F.out.1.below h) (And.intro (F.out.2.1.below h) (And.intro (F.out.2.2.1.below h) (And.intro (blk_below F.out.2.2.2.2.1 h) (And.intro (r) (below_step F.out.2.2.2.2.2 h))))))
  have LO := Aside0.mk lo
  clear h r lo
  have c0 : x4.cell? ⟨w.heap.size + 1, 0, none⟩ = some (.int .i64 r0) := (blk_cell F.out.2.2.2.1 0).trans rfl
  have c1 : x4.cell? ⟨w.heap.size + 1, 1, none⟩ = some (.int .i64 r1) := (blk_cell F.out.2.2.2.1 1).trans rfl
  go_wp2_with fail
  clear c0 c1
  refine (PCA.out _).mono ?_
  rintro e y1 ⟨rfl, h⟩
  have hal := below_step h ((Below.refl _ y1).alloc (Nat.le_refl _) (.cells #[.int .i64 p0, .int .i64 p1] 26))
  replace F := Aside0.mk (And.intro (F.out.1.below hal) (And.intro (F.out.2.1.below hal) (And.intro (F.out.2.2.1.below hal) (And.intro (blk_below F.out.2.2.2.1 hal) (And.intro (F.out.2.2.2.2.1.below hal) (And.intro (blk_new y1 (.cells #[.int .i64 p0, .int .i64 p1] 26)) (below_step F.out.2.2.2.2.2 hal)))))))
  clear h hal
  go_wp2_with fail
  refine (NB.out _ _ F.out.2.1).mono ?_
  rintro e x5 ⟨rfl, h⟩
  replace F := Aside0.mk (And.intro (F.out.1.below h) (And.intro (F.out.2.1.below h) (And.intro (F.out.2.2.1.below h) (And.intro (blk_below F.out.2.2.2.1 h) (And.intro (F.out.2.2.2.2.1.below h) (And.intro (blk_below F.out.2.2.2.2.2.1 h) (below_step F.out.2.2.2.2.2.2 h)))))))
  clear h
  go_wp2_with fail
  have HR := Aside0.mk (below_drew (Below.refl x5.heap.size x5))
  have d0 : x5.cell? ⟨y1.heap.size, 0, none⟩ = some (.int .i64 p0) := (blk_cell F.out.2.2.2.2.2.1 0).trans rfl
  have d1 : x5.cell? ⟨y1.heap.size, 1, none⟩ = some (.int .i64 p1) := (blk_cell F.out.2.2.2.2.2.1 1).trans rfl
  have d2 : x5.cell? ⟨w.heap.size + 1, 0, none⟩ = some (.int .i64 r0) := (blk_cell F.out.2.2.2.1 0).trans rfl
  have d3 : x5.cell? ⟨w.heap.size + 1, 1, none⟩ = some (.int .i64 r1) := (blk_cell F.out.2.2.2.1 1).trans rfl
  simp only [List.append]
  go_region_held3 (fun w' => w'.cell? ⟨y1.heap.size, 0, none⟩ = some (.int .i64 p0) ∧ w'.cell? ⟨y1.heap.size, 1, none⟩ = some (.int .i64 p1) ∧ w'.cell? ⟨w.heap.size + 1, 0, none⟩ = some (.int .i64 r0) ∧ w'.cell? ⟨w.heap.size + 1, 1, none⟩ = some (.int .i64 r1)) (first | exact ⟨d0, d1, d2, d3⟩ | exact ⟨cell_drew_far d0, cell_drew_far d1, cell_drew_far d2, cell_drew_far d3⟩)
    (first
      | (go_at_call 17; with_reducible refine (PF.out _).mono ?_; rintro e w1 ⟨rfl, h1⟩; replace HR := Aside0.mk (below_step HR.out h1); have d0 : w1.cell? ⟨y1.heap.size, 0, none⟩ = some (.int .i64 p0) := (blk_cell (blk_below F.out.2.2.2.2.2.1 HR.out) 0).trans rfl; have d1 : w1.cell? ⟨y1.heap.size, 1, none⟩ = some (.int .i64 p1) := (blk_cell (blk_below F.out.2.2.2.2.2.1 HR.out) 1).trans rfl; have d2 : w1.cell? ⟨w.heap.size + 1, 0, none⟩ = some (.int .i64 r0) := (blk_cell (blk_below F.out.2.2.2.1 HR.out) 0).trans rfl; have d3 : w1.cell? ⟨w.heap.size + 1, 1, none⟩ = some (.int .i64 r1) := (blk_cell (blk_below F.out.2.2.2.1 HR.out) 1).trans rfl; clear h1)
      | (go_at_call 17; with_reducible refine (PT.out _).mono ?_; rintro e w1 ⟨rfl, h1⟩; replace HR := Aside0.mk (below_step HR.out h1); have d0 : w1.cell? ⟨y1.heap.size, 0, none⟩ = some (.int .i64 p0) := (blk_cell (blk_below F.out.2.2.2.2.2.1 HR.out) 0).trans rfl; have d1 : w1.cell? ⟨y1.heap.size, 1, none⟩ = some (.int .i64 p1) := (blk_cell (blk_below F.out.2.2.2.2.2.1 HR.out) 1).trans rfl; have d2 : w1.cell? ⟨w.heap.size + 1, 0, none⟩ = some (.int .i64 r0) := (blk_cell (blk_below F.out.2.2.2.1 HR.out) 0).trans rfl; have d3 : w1.cell? ⟨w.heap.size + 1, 1, none⟩ = some (.int .i64 r1) := (blk_cell (blk_below F.out.2.2.2.1 HR.out) 1).trans rfl; clear h1)
      | (go_at_call 15; with_reducible refine (NA.out _ _ (F.out.1.below HR.out)).mono ?_; rintro e w1 ⟨rfl, h1⟩; replace HR := Aside0.mk (below_step HR.out h1); have d0 : w1.cell? ⟨y1.heap.size, 0, none⟩ = some (.int .i64 p0) := (blk_cell (blk_below F.out.2.2.2.2.2.1 HR.out) 0).trans rfl; have d1 : w1.cell? ⟨y1.heap.size, 1, none⟩ = some (.int .i64 p1) := (blk_cell (blk_below F.out.2.2.2.2.2.1 HR.out) 1).trans rfl; have d2 : w1.cell? ⟨w.heap.size + 1, 0, none⟩ = some (.int .i64 r0) := (blk_cell (blk_below F.out.2.2.2.1 HR.out) 0).trans rfl; have d3 : w1.cell? ⟨w.heap.size + 1, 1, none⟩ = some (.int .i64 r1) := (blk_cell (blk_below F.out.2.2.2.1 HR.out) 1).trans rfl; clear h1)
      | (go_at_call 16; with_reducible refine (agreeV (F.out.1.below HR.out) (F.out.2.1.below HR.out) (by have := LN.out; have := LO.out; omega) (by have := LN.out; have := LO.out; omega) p0 p1 pf pt ka).mono ?_; rintro e w1 ⟨rfl, h1⟩; replace HR := Aside0.mk (below_step HR.out h1); have d0 : w1.cell? ⟨y1.heap.size, 0, none⟩ = some (.int .i64 p0) := (blk_cell (blk_below F.out.2.2.2.2.2.1 HR.out) 0).trans rfl; have d1 : w1.cell? ⟨y1.heap.size, 1, none⟩ = some (.int .i64 p1) := (blk_cell (blk_below F.out.2.2.2.2.2.1 HR.out) 1).trans rfl; have d2 : w1.cell? ⟨w.heap.size + 1, 0, none⟩ = some (.int .i64 r0) := (blk_cell (blk_below F.out.2.2.2.1 HR.out) 0).trans rfl; have d3 : w1.cell? ⟨w.heap.size + 1, 1, none⟩ = some (.int .i64 r1) := (blk_cell (blk_below F.out.2.2.2.1 HR.out) 1).trans rfl; clear h1)
      | (go_at_call 16; with_reducible refine (agreeV (F.out.1.below HR.out) (F.out.2.1.below HR.out) (by have := LN.out; have := LO.out; omega) (by have := LN.out; have := LO.out; omega) r0 r1 fr to' n).mono ?_; rintro e w1 ⟨rfl, h1⟩; replace HR := Aside0.mk (below_step HR.out h1); have d0 : w1.cell? ⟨y1.heap.size, 0, none⟩ = some (.int .i64 p0) := (blk_cell (blk_below F.out.2.2.2.2.2.1 HR.out) 0).trans rfl; have d1 : w1.cell? ⟨y1.heap.size, 1, none⟩ = some (.int .i64 p1) := (blk_cell (blk_below F.out.2.2.2.2.2.1 HR.out) 1).trans rfl; have d2 : w1.cell? ⟨w.heap.size + 1, 0, none⟩ = some (.int .i64 r0) := (blk_cell (blk_below F.out.2.2.2.1 HR.out) 0).trans rfl; have d3 : w1.cell? ⟨w.heap.size + 1, 1, none⟩ = some (.int .i64 r1) := (blk_cell (blk_below F.out.2.2.2.1 HR.out) 1).trans rfl; clear h1)
      | (go_at_call 16; with_reducible refine (agreeV (F.out.2.2.2.2.1.below HR.out) (F.out.2.1.below HR.out) (by have := LN.out; have := LO.out; omega) (by have := LN.out; have := LO.out; omega) p0 p1 pf pt kb).mono ?_; rintro e w1 ⟨rfl, h1⟩; replace HR := Aside0.mk (below_step HR.out h1); have d0 : w1.cell? ⟨y1.heap.size, 0, none⟩ = some (.int .i64 p0) := (blk_cell (blk_below F.out.2.2.2.2.2.1 HR.out) 0).trans rfl; have d1 : w1.cell? ⟨y1.heap.size, 1, none⟩ = some (.int .i64 p1) := (blk_cell (blk_below F.out.2.2.2.2.2.1 HR.out) 1).trans rfl; have d2 : w1.cell? ⟨w.heap.size + 1, 0, none⟩ = some (.int .i64 r0) := (blk_cell (blk_below F.out.2.2.2.1 HR.out) 0).trans rfl; have d3 : w1.cell? ⟨w.heap.size + 1, 1, none⟩ = some (.int .i64 r1) := (blk_cell (blk_below F.out.2.2.2.1 HR.out) 1).trans rfl; clear h1)
      | (go_at_call 16; with_reducible refine (agreeV (F.out.2.1.below HR.out) (F.out.2.2.2.2.1.below HR.out) (by have := LN.out; have := LO.out; omega) (by have := LN.out; have := LO.out; omega) p0 p1 pf pt kb).mono ?_; rintro e w1 ⟨rfl, h1⟩; replace HR := Aside0.mk (below_step HR.out h1); have d0 : w1.cell? ⟨y1.heap.size, 0, none⟩ = some (.int .i64 p0) := (blk_cell (blk_below F.out.2.2.2.2.2.1 HR.out) 0).trans rfl; have d1 : w1.cell? ⟨y1.heap.size, 1, none⟩ = some (.int .i64 p1) := (blk_cell (blk_below F.out.2.2.2.2.2.1 HR.out) 1).trans rfl; have d2 : w1.cell? ⟨w.heap.size + 1, 0, none⟩ = some (.int .i64 r0) := (blk_cell (blk_below F.out.2.2.2.1 HR.out) 0).trans rfl; have d3 : w1.cell? ⟨w.heap.size + 1, 1, none⟩ = some (.int .i64 r1) := (blk_cell (blk_below F.out.2.2.2.1 HR.out) 1).trans rfl; clear h1)
      | (go_at_call 16; with_reducible refine (agreeV (F.out.2.2.1.below HR.out) (F.out.1.below HR.out) (by have := LN.out; have := LO.out; omega) (by have := LN.out; have := LO.out; omega) p0 p1 pf to' n).mono ?_; rintro e w1 ⟨rfl, h1⟩; replace HR := Aside0.mk (below_step HR.out h1); have d0 : w1.cell? ⟨y1.heap.size, 0, none⟩ = some (.int .i64 p0) := (blk_cell (blk_below F.out.2.2.2.2.2.1 HR.out) 0).trans rfl; have d1 : w1.cell? ⟨y1.heap.size, 1, none⟩ = some (.int .i64 p1) := (blk_cell (blk_below F.out.2.2.2.2.2.1 HR.out) 1).trans rfl; have d2 : w1.cell? ⟨w.heap.size + 1, 0, none⟩ = some (.int .i64 r0) := (blk_cell (blk_below F.out.2.2.2.1 HR.out) 0).trans rfl; have d3 : w1.cell? ⟨w.heap.size + 1, 1, none⟩ = some (.int .i64 r1) := (blk_cell (blk_below F.out.2.2.2.1 HR.out) 1).trans rfl; clear h1)
      | (go_at_call 16; with_reducible refine (agreeV (F.out.1.below HR.out) (F.out.2.2.1.below HR.out) (by have := LN.out; have := LO.out; omega) (by have := LN.out; have := LO.out; omega) r0 r1 fr pt kb).mono ?_; rintro e w1 ⟨rfl, h1⟩; replace HR := Aside0.mk (below_step HR.out h1); have d0 : w1.cell? ⟨y1.heap.size, 0, none⟩ = some (.int .i64 p0) := (blk_cell (blk_below F.out.2.2.2.2.2.1 HR.out) 0).trans rfl; have d1 : w1.cell? ⟨y1.heap.size, 1, none⟩ = some (.int .i64 p1) := (blk_cell (blk_below F.out.2.2.2.2.2.1 HR.out) 1).trans rfl; have d2 : w1.cell? ⟨w.heap.size + 1, 0, none⟩ = some (.int .i64 r0) := (blk_cell (blk_below F.out.2.2.2.1 HR.out) 0).trans rfl; have d3 : w1.cell? ⟨w.heap.size + 1, 1, none⟩ = some (.int .i64 r1) := (blk_cell (blk_below F.out.2.2.2.1 HR.out) 1).trans rfl; clear h1))
  all_goals go_wp2_with fail
  all_goals go_ret
  all_goals exact ⟨rfl, below_step F.out.2.2.2.2.2.2 HR.out⟩
end Go.Proofs.Ytdflgjgoikofaaa.Bk

namespace Go.Proofs.Ytdflgjgoikofaaa.Bk
open Go Go.RowKit Go.ChangeShapes Go.WideShapes Go.ChangeAt
open Go.Proofs.YtdflgjgoikofaaaW.PrintWords
open Go.Proofs.Ytdflgjgoikofaaa.Ref Go.Proofs.Ytdflgjgoikofaaa.Pl

theorem cells26 : Try.prog.cellsOf 26 = 2 := by kernel_rfl
theorem cells53 : Try.prog.cellsOf 53 = 3 := by kernel_rfl
theorem trod26 {H : Type} {enc : TypeId × Value → H} {W : World} {base : Nat} {spare : Nat → Bool} {held : Bool} {fuel : Nat} {c0 c1 : Value} {x : DataW H × List MemPlace}
    (h : DataW.trod enc Try.prog W base spare held fuel 26 [c0, c1] = some x) : ∃ n0 n1, c0 = .int .i64 n0 ∧ c1 = .int .i64 n1 ∧ I64 n0 ∧ I64 n1 := by
  obtain ⟨xs, m, _, _, _, hl, hx⟩ := DataW.trod_struct Try.underlying26 h
  have hl2 : xs.length = 2 := hl
  have g0 : DataW.trod enc Try.prog W base spare held m 3 (List.take (Try.prog.cellsOf 3) (List.drop 0 [c0, c1])) = xs[0]? := hx 0 _ rfl
  have g1 : DataW.trod enc Try.prog W base spare held m 3 (List.take (Try.prog.cellsOf 3) (List.drop 1 [c0, c1])) = xs[1]? := hx 1 _ rfl
  rw [cells3_] at g0 g1
  obtain ⟨x0, hx0⟩ : ∃ x, xs[0]? = some x := ⟨_, List.getElem?_eq_getElem (by omega)⟩
  obtain ⟨x1, hx1⟩ : ∃ x, xs[1]? = some x := ⟨_, List.getElem?_eq_getElem (by omega)⟩
  rw [hx0] at g0
  rw [hx1] at g1
  simp at g0 g1
  obtain ⟨n0, e0, _, w0⟩ := DataW.trod_int Try.underlying3 g0
  obtain ⟨n1, e1, _, w1⟩ := DataW.trod_int Try.underlying3 g1
  simp at e0 e1
  exact ⟨n0, n1, e0, e1, I64_of_wf w0, I64_of_wf w1⟩
theorem trod53 {H : Type} {enc : TypeId × Value → H} {W : World} {base : Nat} {spare : Nat → Bool} {held : Bool} {fuel : Nat} {c0 c1 c2 : Value} {x : DataW H × List MemPlace}
    (h : DataW.trod enc Try.prog W base spare held fuel 53 [c0, c1, c2] = some x) : ∃ n0 n1 n2, c0 = .int .i64 n0 ∧ c1 = .int .i64 n1 ∧ c2 = .int .i64 n2 := by
  obtain ⟨xs, m, _, _, _, hl, hx⟩ := DataW.trod_struct Try.underlying53 h
  have hl2 : xs.length = 2 := hl
  have g0 : DataW.trod enc Try.prog W base spare held m 26 (List.take (Try.prog.cellsOf 26) (List.drop 0 [c0, c1, c2])) = xs[0]? := hx 0 _ rfl
  have g1 : DataW.trod enc Try.prog W base spare held m 3 (List.take (Try.prog.cellsOf 3) (List.drop 2 [c0, c1, c2])) = xs[1]? := hx 1 _ rfl
  rw [cells26] at g0
  rw [cells3_] at g1
  obtain ⟨x0, hx0⟩ : ∃ x, xs[0]? = some x := ⟨_, List.getElem?_eq_getElem (by omega)⟩
  obtain ⟨x1, hx1⟩ : ∃ x, xs[1]? = some x := ⟨_, List.getElem?_eq_getElem (by omega)⟩
  rw [hx0] at g0
  rw [hx1] at g1
  simp at g0 g1
  obtain ⟨n0, n1, e0, e1, _, _⟩ := trod26 g0
  obtain ⟨n2, e2, _, w2⟩ := DataW.trod_int Try.underlying3 g1
  simp at e2
  exact ⟨n0, n1, n2, e0, e1, e2⟩
theorem blocks_of_trod {H : Type} {enc : TypeId × Value → H} {W : World} {base : Nat} {spare : Nat → Bool} {held : Bool} {fuel : Nat} {a : Option Addr} {len cap : Nat} {x : DataW H × List MemPlace}
    (h : DataW.trod enc Try.prog W base spare held fuel 24 [.slice a len cap] = some x) :
    ∃ xs : List S53, xs.length = len ∧ len ≤ cap ∧ len ≤ maxLen ∧ Kd.C k53 W a xs.length xs := by
  rcases Go.Deep.open_slice Try.underlying24 h with ⟨hcs, _⟩ | ⟨ad, l, c, m, n, D, Q, hcs, _, hl, hm, hmm, _, hx⟩
  · simp at hcs
    obtain ⟨rfl, rfl, rfl⟩ := hcs
    exact ⟨[], rfl, Nat.le_refl _, by unfold maxLen; omega, Kd.C_nil _ _⟩
  · simp at hcs
    obtain ⟨rfl, rfl, rfl⟩ := hcs
    have hlm : len ≤ m := by rw [hmm]; split <;> omega
    rw [cells53] at hx
    have key : ∀ i, i < len → ∃ y : S53, ∀ j u, [Value.int .i64 y.f0.f0, .int .i64 y.f0.f1, .int .i64 y.f1][j]? = some u → W.cell? (ad.add (i * 3 + j)) = some u := by
      intro i hi
      obtain ⟨cs', h1, h2⟩ := hx i (by omega)
      obtain ⟨_, h3, h4⟩ := World.cells?_some h1
      match cs', h3 with
      | [c0, c1, c2], _ =>
        obtain ⟨n0, n1, n2, rfl, rfl, rfl⟩ := trod53 h2
        refine ⟨⟨⟨n0, n1⟩, n2⟩, fun j u hj => ?_⟩
        have hlt : j < 3 := (List.getElem?_eq_some_iff.1 hj).1
        have := h4 j hlt
        rw [Go.Deep.add_add] at this
        exact this.trans hj
    haveI : Inhabited S53 := ⟨z53⟩
    obtain ⟨F, hF⟩ := Go.Deep.choose_lt (α := S53) key
    have hlen : ((List.range len).map F).length = len := by simp
    refine ⟨(List.range len).map F, hlen, hl, by omega, rfl, by rw [hlen]; unfold maxLen at hm; omega, fun _ => ⟨ad, rfl, fun j p hj => ?_⟩⟩
    have hjl : j < len := by have := (List.getElem?_eq_some_iff.1 hj).1; rwa [hlen] at this
    rw [List.getElem?_map, List.getElem?_range hjl] at hj
    simp only [Option.map_some, Option.some.injEq] at hj
    subst hj
    exact ⟨[.int .i64 (F j).f0.f0, .int .i64 (F j).f0.f1, .int .i64 (F j).f1], rfl, k53_mk W (F j), hF j hjl⟩
theorem open_range {H : Type} {enc : TypeId × Value → H} {W : World} {base base' : Nat} {spare : Nat → Bool} {held : Bool} {v : Value} {d : DataW H} {ps : List MemPlace}
    (hv : Value.okWide Try.prog W .any base' 26 v) (h : DataW.Trod enc Try.prog W base spare held 26 v d ps) : ∃ q0 q1, v = .agg #[.int .i64 q0, .int .i64 q1] ∧ I64 q0 ∧ I64 q1 := by
  simp only [Value.okWide, Try.underlying26] at hv
  obtain ⟨cs, rfl, h2, _⟩ := hv
  rw [cells26] at h2
  obtain ⟨fuel, hf⟩ := h
  obtain ⟨c0, c1, rfl⟩ : ∃ c0 c1, cs = #[c0, c1] := by
    match cs, h2 with
    | ⟨[c0, c1]⟩, _ => exact ⟨c0, c1, rfl⟩
  simp [Value.cells] at hf
  obtain ⟨n0, n1, rfl, rfl, w0, w1⟩ := trod26 hf
  exact ⟨n0, n1, rfl, w0, w1⟩
theorem open_three {H : Type} {enc : TypeId × Value → H} {W : World} {base base' : Nat} {spare : Nat → Bool} {held : Bool} {v : Value} {d : DataW H} {ps : List MemPlace}
    (hv : Value.okWide Try.prog W .any base' 23 v) (h : DataW.Trod enc Try.prog W base spare held 23 v d ps) : ∃ q0 q1 q2, v = .agg #[.int .i64 q0, .int .i64 q1, .int .i64 q2] ∧ I64 q0 ∧ I64 q1 ∧ I64 q2 := by
  simp only [Value.okWide, Try.underlying23] at hv
  obtain ⟨cs, rfl, h2, _⟩ := hv
  rw [cells23] at h2
  obtain ⟨fuel, hf⟩ := h
  obtain ⟨c0, c1, c2, rfl⟩ : ∃ c0 c1 c2, cs = #[c0, c1, c2] := by
    match cs, h2 with
    | ⟨[c0, c1, c2]⟩, _ => exact ⟨c0, c1, c2, rfl⟩
  simp [Value.cells] at hf
  obtain ⟨y0, y1, y2, k, _, t0, t1, t2⟩ := trod_array3 Try.underlying23 cells3_ hf
  obtain ⟨n0, e0, _, w0⟩ := DataW.trod_int Try.underlying3 t0
  obtain ⟨n1, e1, _, w1⟩ := DataW.trod_int Try.underlying3 t1
  obtain ⟨n2, e2, _, w2⟩ := DataW.trod_int Try.underlying3 t2
  simp at e0 e1 e2
  subst e0 e1 e2
  exact ⟨n0, n1, n2, rfl, I64_of_wf w0, I64_of_wf w1, I64_of_wf w2⟩
end Go.Proofs.Ytdflgjgoikofaaa.Bk

namespace Go.Proofs.Ytdflgjgoikofaaa.Bk
open Go.RowKit Go.Shelf Go.Proofs.YtdflgjgoikofaaaW.PrintWords Go.Proofs.YtdflgjgoikofaaaW.PrintLast Go.Proofs.YtdflgjgoikofaaaW.PrintMore
open Go.Proofs.Ytdflgjgoikofaaa.Ref Go.Proofs.Ytdflgjgoikofaaa.Pl Go.Proofs.Ytdflgjgoikofaaa.Rg
theorem blockMatchesReference_calls (xs ys : List (Int × Int × Int)) (raw : List S53) (A B R : Option Addr) (ca cb cr : Nat) (b0 b1 b2 r0 r1 fr to' n wh : Int) (w : World) (hx : Trip w A xs) (hy : Trip w B ys) (hr : Kd.C k53 w R raw.length raw)
    (hca : xs.length ≤ ca) (hcb : ys.length ≤ cb) (hcr : raw.length ≤ cr) (hl1 : xs.length ≤ 9223372036854775807) (hl2 : ys.length ≤ 9223372036854775807) (_hl3 : raw.length ≤ 9223372036854775807)
    (i0 : I64 b0) (i1 : I64 b1) (i2 : I64 b2) (i3 : I64 r0) (i4 : I64 r1) (i5 : I64 fr) (i6 : I64 to') (i7 : I64 n) (i8 : I64 wh) :
    Calls Try.prog 3 #[.slice A xs.length ca, .slice B ys.length cb, .agg #[.int .i64 b0, .int .i64 b1, .int .i64 b2], .slice R raw.length cr, .agg #[.int .i64 r0, .int .i64 r1], .int .i64 fr, .int .i64 to', .int .i64 n, .int .i64 wh] w fun e w' => e = .returned (.bool true) ∧ Below w.heap.size w w' := by
  obtain ⟨EA, _, va_, _⟩ := made_spec12 xs
  obtain ⟨EB, _, vb_, _⟩ := made_spec12 ys
  have la := validP_len va_
  have lb := validP_len vb_
  have e : (raw.take (min raw.length 42)).length = min raw.length 42 := by rw [List.length_take]; omega
  have hrw : Rw w (raw.take (min raw.length 42)) (.slice R (min raw.length 42) cr) := ⟨R, cr, by rw [e], by rw [e]; omega, Kd.C_take hr (by omega)⟩
  exact matches_walk xs ys raw _ _ _ A B R ca cb cr (min raw.length 42) b0 b1 b2 r0 r1 fr to' n wh _ _ _ _ _ _ w ⟨hx, hy, hrw⟩ (by omega) (eq_true (by omega)) (eq_true (by omega))
    ⟨fun w' h => madeV xs A ca w' h hca hl1⟩ ⟨fun w' h => madeV ys B cb w' h hcb hl2⟩ ⟨fun w' => piece_calls r0 r1 w' i3 i4⟩
    ⟨fun w' => pickV fr 8 w' i5 (by omega)⟩ ⟨fun w' => pickV to' 8 w' i6 (by omega)⟩ ⟨fun w' v h => nearV h va_ wh n i8 i7⟩ ⟨fun w' v h => nearV h vb_ wh n i8 i7⟩
    ⟨i0, i1, i2⟩ ⟨by omega, by omega, by rw [e]; omega⟩
end Go.Proofs.Ytdflgjgoikofaaa.Bk

namespace Go.Proofs.Ytdflgjgoikofaaa.blockMatchesReference
open Go.ChangeShapes Go.WideShapes Go.ChangeAt Go.RowKit
open Go.ChangeMaps (open_string shut_string)
set_option linter.unusedVariables false

theorem own : ownKnob Try.prog.godebug = none := by kernel_rfl
theorem laidOut : laidOutB Try.prog = true := by kernel_rfl

set_option maxRecDepth 100000 in
theorem lifted (os : Os) (started : os.Started) (H : Type) (enc : TypeId × Value → H) :
    ReturnsInHanded {} Try.checked os 3 .any (Rows.blockMatchesReferenceSpec.pre6 enc Try.prog Try.f3 Rows.blockMatchesReferenceRow.domain false) (Rows.blockMatchesReferenceSpec.post enc Try.prog Try.f3 false true false false) := by
  refine returnsInHanded_of_change (C := Try.checked) own started (by kernel_rfl) Try.func3
    (ChangeSpec.witness6 (enc := enc) (C := Try.checked) false ⟨#[], #[.slice none 0 0, .slice none 0 0, .agg #[.int .i64 0, .int .i64 0, .int .i64 0], .slice none 0 0, .agg #[.int .i64 0, .int .i64 0], .int .i64 0, .int .i64 0, .int .i64 0, .int .i64 0], []⟩ 8 (by kernel_rfl) (by kernel_rfl) (by kernel_rfl) (by kernel_rfl)) ?_
  intro W base args ds gs before hval0 hW hcnd _
  have hval : ∀ (j : Nat) t v, Try.f3.params[j]? = some t → args[j]? = some v → Value.okWide Try.prog W .any base t v := hval0
  have hW' := hW
  obtain ⟨p, q, hA0, hV, rfl, hfz, hnd⟩ := hW
  have hA : DataW.TrodAll enc Try.prog W 0 (fun _ => true) true Try.f3.params.toList args.toList ds p := hA0
  rw [Try.params3] at hA hval
  obtain ⟨v0, vs0, d0, ds0, p0, q0, hargs, rfl, rfl, h0, r0⟩ := trodAll_cons hA
  obtain ⟨v1, vs1, d1, ds1, p1, q1, rfl, rfl, rfl, h1, r1⟩ := trodAll_cons r0
  obtain ⟨v2, vs2, d2, ds2, p2, q2, rfl, rfl, rfl, h2, r2⟩ := trodAll_cons r1
  obtain ⟨v3, vs3, d3, ds3, p3, q3, rfl, rfl, rfl, h3, r3⟩ := trodAll_cons r2
  obtain ⟨v4, vs4, d4, ds4, p4, q4, rfl, rfl, rfl, h4, r4⟩ := trodAll_cons r3
  obtain ⟨v5, vs5, d5, ds5, p5, q5, rfl, rfl, rfl, h5, r5⟩ := trodAll_cons r4
  obtain ⟨v6, vs6, d6, ds6, p6, q6, rfl, rfl, rfl, h6, r6⟩ := trodAll_cons r5
  obtain ⟨v7, vs7, d7, ds7, p7, q7, rfl, rfl, rfl, h7, r7⟩ := trodAll_cons r6
  obtain ⟨v8, vs8, d8, ds8, p8, q8, rfl, rfl, rfl, h8, r8⟩ := trodAll_cons r7
  obtain ⟨rfl, rfl, rfl⟩ := trodAll_nil r8
  obtain rfl : args = #[v0, v1, v2, v3, v4, v5, v6, v7, v8] := by cases args; simp_all
  obtain ⟨rfl, rfl⟩ := trodVars_none hV
  obtain ⟨a0, len0, cap0, rfl⟩ := okWide_slice Try.underlying22 (hval 0 22 v0 rfl rfl)
  have k0 := h0
  have lt0 : ∀ x ∈ p0, x.block < W.heap.size := by obtain ⟨m, hm⟩ := k0; exact DataW.trod_lt m _ _ _ hm
  obtain ⟨xs0, rfl, c0, l0, w0⟩ : ∃ xs : List (Int × Int × Int), xs.length = len0 ∧ len0 ≤ cap0 ∧ len0 ≤ maxLen ∧ Bk.Trip W a0 xs := by
    obtain ⟨fuel, hf⟩ := h0
    exact Bk.trip_of_trod hf
  obtain ⟨a1, len1, cap1, rfl⟩ := okWide_slice Try.underlying22 (hval 1 22 v1 rfl rfl)
  have k1 := h1
  have lt1 : ∀ x ∈ p1, x.block < W.heap.size := by obtain ⟨m, hm⟩ := k1; exact DataW.trod_lt m _ _ _ hm
  obtain ⟨xs1, rfl, c1, l1, w1⟩ : ∃ xs : List (Int × Int × Int), xs.length = len1 ∧ len1 ≤ cap1 ∧ len1 ≤ maxLen ∧ Bk.Trip W a1 xs := by
    obtain ⟨fuel, hf⟩ := h1
    exact Bk.trip_of_trod hf
  have k2 := h2
  have lt2 : ∀ x ∈ p2, x.block < W.heap.size := by obtain ⟨m, hm⟩ := k2; exact DataW.trod_lt m _ _ _ hm
  obtain ⟨a2, b2, e2, rfl, w2, u2, z2⟩ := Bk.open_three (hval 2 23 v2 rfl rfl) h2
  obtain ⟨a3, len3, cap3, rfl⟩ := okWide_slice Try.underlying24 (hval 3 24 v3 rfl rfl)
  have k3 := h3
  have lt3 : ∀ x ∈ p3, x.block < W.heap.size := by obtain ⟨m, hm⟩ := k3; exact DataW.trod_lt m _ _ _ hm
  obtain ⟨xs3, rfl, c3, l3, w3⟩ : ∃ xs : List Ref.S53, xs.length = len3 ∧ len3 ≤ cap3 ∧ len3 ≤ maxLen ∧ Go.Proofs.YtdflgjgoikofaaaW.PrintWords.Kd.C Ref.k53 W a3 xs.length xs := by
    obtain ⟨fuel, hf⟩ := h3
    exact Bk.blocks_of_trod hf
  have k4 := h4
  have lt4 : ∀ x ∈ p4, x.block < W.heap.size := by obtain ⟨m, hm⟩ := k4; exact DataW.trod_lt m _ _ _ hm
  obtain ⟨a4, b4, rfl, w4, u4⟩ := Bk.open_range (hval 4 26 v4 rfl rfl) h4
  obtain ⟨a5, rfl, rfl, rfl, w5⟩ := open_int Try.underlying3 (hval 5 3 v5 rfl rfl) h5
  obtain ⟨a6, rfl, rfl, rfl, w6⟩ := open_int Try.underlying3 (hval 6 3 v6 rfl rfl) h6
  obtain ⟨a7, rfl, rfl, rfl, w7⟩ := open_int Try.underlying3 (hval 7 3 v7 rfl rfl) h7
  obtain ⟨a8, rfl, rfl, rfl, w8⟩ := open_int Try.underlying3 (hval 8 3 v8 rfl rfl) h8
  clear hA0 hval0
  refine (Bk.blockMatchesReference_calls xs0 xs1 xs3 a0 a1 a3 cap0 cap1 cap3 a2 b2 e2 a4 b4 a5 a6 a7 a8 W w0 w1 w3 c0 c1 c3 (by unfold maxLen at l0; omega) (by unfold maxLen at l1; omega) (by unfold maxLen at l3; omega) w2 u2 z2 w4 u4 (Bk.I64_of_wf w5) (Bk.I64_of_wf w6) (Bk.I64_of_wf w7) (Bk.I64_of_wf w8)).mono fun e W' ⟨he, bel⟩ => ?_
  subst he
  exact ⟨_, rfl, _, _, _, [], _, [], hW', trodAll_mk1 (shut_bool Try.underlying4 _), (trodAll_cons_mk (Below.trod laidOut (by kernel_rfl) (of_decide_eq_true (by kernel_rfl)) k0 bel lt0) (trodAll_cons_mk (Below.trod laidOut (by kernel_rfl) (of_decide_eq_true (by kernel_rfl)) k1 bel lt1) (trodAll_cons_mk (Below.trod laidOut (by kernel_rfl) (of_decide_eq_true (by kernel_rfl)) k2 bel lt2) (trodAll_cons_mk (Below.trod laidOut (by kernel_rfl) (of_decide_eq_true (by kernel_rfl)) k3 bel lt3) (trodAll_cons_mk (Below.trod laidOut (by kernel_rfl) (of_decide_eq_true (by kernel_rfl)) k4 bel lt4) (trodAll_cons_mk (shut_int Try.underlying3 w5) (trodAll_cons_mk (shut_int Try.underlying3 w6) (trodAll_cons_mk (shut_int Try.underlying3 w7) (trodAll_cons_mk (shut_int Try.underlying3 w8) trodAll_mk0))))))))), rfl, bel.frame _, fun h => by cases h⟩

theorem over : Rows.blockMatchesReferenceRow.holds Try.pinned (OpenSpec.ofChange Rows.blockMatchesReferenceSpec) :=
  OpenClaim.holds_of_wide 3 Try.f3 rfl rfl rfl rfl rfl rfl rfl ⟨rfl, rfl, rfl, rfl, rfl⟩ rfl rfl rfl rfl rfl (by kernel_rfl) Try.func3 (by kernel_rfl)
    (of_decide_eq_true (by kernel_rfl)) (by unfold Func.isWrapper; first | (rw [if_pos (by decide +kernel)]; kernel_rfl) | (rw [if_neg (by decide +kernel)]; exact ⟨rfl, rfl⟩))
    (fun os started H enc _ => lifted os started H enc)

theorem proved : Rows.BlockMatchesReferenceSaid := over
#print axioms proved
end Go.Proofs.Ytdflgjgoikofaaa.blockMatchesReference
