/- What the law's own check of the examples returns: true; what a reading tells. -/
import Derived.Test.YtdflgjgoikofaaaZ6
import Derived.Deep.Slices
import Derived.Laws.IdiomArrays
import Derived.ProofKit
import Derived.OpenShut
import Derived.ChangeOld
set_option linter.unusedVariables false
set_option linter.unusedSimpArgs false
set_option linter.unusedVariables false
namespace Go.Proofs.Ytdflgjgoikofaaa.Bk
open Go.RowKit Go.Shelf Go.Proofs.YtdflgjgoikofaaaW.PrintWords Go.Proofs.YtdflgjgoikofaaaW.PrintLast Go.Proofs.YtdflgjgoikofaaaW.PrintMore
open Go.Proofs.Ytdflgjgoikofaaa.Ref Go.Proofs.Ytdflgjgoikofaaa.Pl Go.Proofs.Ytdflgjgoikofaaa.Rg

set_option maxHeartbeats 8000000 in
set_option maxRecDepth 100000 in
theorem sane_calls (w : World) : Calls Try.prog 11 #[] w fun e w' => e = .returned (.bool true) ∧ Below w.heap.size w w' := by
  have HB := Aside0.mk (Below.refl w.heap.size w)
  go_enter Try.func11, Try.ntmps11
  go_wp2_with fail
  refine (oneV 100 200 1 _).mono ?_
  rintro e w1 ⟨rfl, h1⟩
  replace HB := Aside0.mk (below_step HB.out h1)
  clear h1
  go_wp2_with fail
  refine (oneV 200 300 2 _).mono ?_
  rintro e w2 ⟨rfl, h2⟩
  replace HB := Aside0.mk (below_step HB.out h2)
  clear h2
  go_wp2_with fail
  have hal := (Below.refl _ w2).alloc (Nat.le_refl _) (.cells (flat ([bk 100 200 1, bk 200 300 2] : List S53)).toArray 53)
  have RM := Aside0.mk (Rw_block w2 ([bk 100 200 1, bk 200 300 2] : List S53) (by decide) (by decide))
  replace HB := Aside0.mk (below_step HB.out hal)
  clear hal
  refine (giveV (l := exM) RM.out 150 250 3 exG 0 exG_is).mono ?_
  rintro e w3 ⟨v3, rfl, r3, h3⟩
  replace RM := Aside0.mk (RM.out.below h3)
  have RG := Aside0.mk r3
  clear r3
  replace HB := Aside0.mk (below_step HB.out h3)
  clear h3
  go_wp2_with fail
  refine (giveV (l := exM) RM.out 200 300 1 exH 0 exH_is).mono ?_
  rintro e w4 ⟨v4, rfl, r4, h4⟩
  replace RM := Aside0.mk (RM.out.below h4)
  replace RG := Aside0.mk (RG.out.below h4)
  have RH := Aside0.mk r4
  clear r4
  replace HB := Aside0.mk (below_step HB.out h4)
  clear h4
  go_wp2_with fail
  refine (takeV (l := exM) RM.out 0 101 exT 0 exT_is).mono ?_
  rintro e w5 ⟨v5, rfl, r5, h5⟩
  replace RM := Aside0.mk (RM.out.below h5)
  replace RG := Aside0.mk (RG.out.below h5)
  replace RH := Aside0.mk (RH.out.below h5)
  have RT := Aside0.mk r5
  clear r5
  replace HB := Aside0.mk (below_step HB.out h5)
  clear h5
  go_wp2_with fail
  refine (onlyV (l := exM) RM.out 0 101 exO 0 exO_is).mono ?_
  rintro e w6 ⟨v6, rfl, r6, h6⟩
  replace RM := Aside0.mk (RM.out.below h6)
  replace RG := Aside0.mk (RG.out.below h6)
  replace RH := Aside0.mk (RH.out.below h6)
  replace RT := Aside0.mk (RT.out.below h6)
  have RO := Aside0.mk r6
  clear r6
  replace HB := Aside0.mk (below_step HB.out h6)
  clear h6
  go_wp2_with fail
  refine (oneV 250 400 2 _).mono ?_
  rintro e w7 ⟨rfl, h7⟩
  replace RM := Aside0.mk (RM.out.below h7)
  replace RG := Aside0.mk (RG.out.below h7)
  replace RH := Aside0.mk (RH.out.below h7)
  replace RT := Aside0.mk (RT.out.below h7)
  replace RO := Aside0.mk (RO.out.below h7)
  replace HB := Aside0.mk (below_step HB.out h7)
  clear h7
  go_wp2_with fail
  have hal := (Below.refl _ w7).alloc (Nat.le_refl _) (.cells (flat ([bk 250 400 2] : List S53)).toArray 53)
  replace RM := Aside0.mk (RM.out.below hal)
  replace RG := Aside0.mk (RG.out.below hal)
  replace RH := Aside0.mk (RH.out.below hal)
  replace RT := Aside0.mk (RT.out.below hal)
  replace RO := Aside0.mk (RO.out.below hal)
  have RX := Aside0.mk (Rw_block w7 ([bk 250 400 2] : List S53) (by decide) (by decide))
  replace HB := Aside0.mk (below_step HB.out hal)
  clear hal
  refine (overlayV (l := exM) RM.out RX.out exV 0 exV_is).mono ?_
  rintro e w8 ⟨v8, rfl, r8, h8⟩
  replace RM := Aside0.mk (RM.out.below h8)
  replace RG := Aside0.mk (RG.out.below h8)
  replace RH := Aside0.mk (RH.out.below h8)
  replace RT := Aside0.mk (RT.out.below h8)
  replace RO := Aside0.mk (RO.out.below h8)
  replace RX := Aside0.mk (RX.out.below h8)
  have RV := Aside0.mk r8
  clear r8
  replace HB := Aside0.mk (below_step HB.out h8)
  clear h8
  go_wp2_with fail
  clear RX
  refine (swapV (l := exM) RM.out 2 1 exH 0 exS_is).mono ?_
  rintro e w9 ⟨v9, rfl, r9, h9⟩
  replace RM := Aside0.mk (RM.out.below h9)
  replace RG := Aside0.mk (RG.out.below h9)
  replace RH := Aside0.mk (RH.out.below h9)
  replace RT := Aside0.mk (RT.out.below h9)
  replace RO := Aside0.mk (RO.out.below h9)
  replace RV := Aside0.mk (RV.out.below h9)
  have RS := Aside0.mk r9
  clear r9
  replace HB := Aside0.mk (below_step HB.out h9)
  clear h9
  go_wp2_with fail
  refine (differV (l := exM) (m := exG) RM.out RG.out [⟨150, 250⟩] 0 exD_is).mono ?_
  rintro e w10 ⟨v10, rfl, r10, h10⟩
  replace RM := Aside0.mk (RM.out.below h10)
  replace RG := Aside0.mk (RG.out.below h10)
  replace RH := Aside0.mk (RH.out.below h10)
  replace RT := Aside0.mk (RT.out.below h10)
  replace RO := Aside0.mk (RO.out.below h10)
  replace RV := Aside0.mk (RV.out.below h10)
  replace RS := Aside0.mk (RS.out.below h10)
  have RD := Aside0.mk r10
  clear r10
  replace HB := Aside0.mk (below_step HB.out h10)
  clear h10
  go_wp2_with fail
  refine (giveV (l := exM) RM.out 5 5 1 [] 130 exE_is).mono ?_
  rintro e w11 ⟨v11, rfl, r11, h11⟩
  replace RM := Aside0.mk (RM.out.below h11)
  replace RG := Aside0.mk (RG.out.below h11)
  replace RH := Aside0.mk (RH.out.below h11)
  replace RT := Aside0.mk (RT.out.below h11)
  replace RO := Aside0.mk (RO.out.below h11)
  replace RV := Aside0.mk (RV.out.below h11)
  replace RS := Aside0.mk (RS.out.below h11)
  replace RD := Aside0.mk (RD.out.below h11)
  have RE := Aside0.mk r11
  clear r11
  replace HB := Aside0.mk (below_step HB.out h11)
  clear h11
  go_wp2_with fail
  clear RE
  refine (freeV (l := exM) RM.out 0 0 true exA_is).mono ?_
  rintro e w12 ⟨rfl, h12⟩
  replace RM := Aside0.mk (RM.out.below h12)
  replace RG := Aside0.mk (RG.out.below h12)
  replace RH := Aside0.mk (RH.out.below h12)
  replace RT := Aside0.mk (RT.out.below h12)
  replace RO := Aside0.mk (RO.out.below h12)
  replace RV := Aside0.mk (RV.out.below h12)
  replace RS := Aside0.mk (RS.out.below h12)
  replace RD := Aside0.mk (RD.out.below h12)
  replace HB := Aside0.mk (below_step HB.out h12)
  clear h12
  go_wp2_with fail
  refine (freeV (l := exM) RM.out 100 300 true exB_is).mono ?_
  rintro e w13 ⟨rfl, h13⟩
  replace RM := Aside0.mk (RM.out.below h13)
  replace RG := Aside0.mk (RG.out.below h13)
  replace RH := Aside0.mk (RH.out.below h13)
  replace RT := Aside0.mk (RT.out.below h13)
  replace RO := Aside0.mk (RO.out.below h13)
  replace RV := Aside0.mk (RV.out.below h13)
  replace RS := Aside0.mk (RS.out.below h13)
  replace RD := Aside0.mk (RD.out.below h13)
  replace HB := Aside0.mk (below_step HB.out h13)
  clear h13
  go_wp2_with fail
  refine (freeV (l := exM) RM.out 99999999 99999999 true exC_is).mono ?_
  rintro e w14 ⟨rfl, h14⟩
  replace RM := Aside0.mk (RM.out.below h14)
  replace RG := Aside0.mk (RG.out.below h14)
  replace RH := Aside0.mk (RH.out.below h14)
  replace RT := Aside0.mk (RT.out.below h14)
  replace RO := Aside0.mk (RO.out.below h14)
  replace RV := Aside0.mk (RV.out.below h14)
  replace RS := Aside0.mk (RS.out.below h14)
  replace RD := Aside0.mk (RD.out.below h14)
  replace HB := Aside0.mk (below_step HB.out h14)
  clear h14
  go_wp2_with fail
  refine (findsV (l := exM) RM.out 99 (-1) true (by kernel_rfl)).mono ?_
  rintro e w15 ⟨rfl, h15⟩
  replace RM := Aside0.mk (RM.out.below h15)
  replace RG := Aside0.mk (RG.out.below h15)
  replace RH := Aside0.mk (RH.out.below h15)
  replace RT := Aside0.mk (RT.out.below h15)
  replace RO := Aside0.mk (RO.out.below h15)
  replace RV := Aside0.mk (RV.out.below h15)
  replace RS := Aside0.mk (RS.out.below h15)
  replace RD := Aside0.mk (RD.out.below h15)
  replace HB := Aside0.mk (below_step HB.out h15)
  clear h15
  go_wp2_with fail
  refine (findsV (l := exM) RM.out 100 (1) true (by kernel_rfl)).mono ?_
  rintro e w16 ⟨rfl, h16⟩
  replace RM := Aside0.mk (RM.out.below h16)
  replace RG := Aside0.mk (RG.out.below h16)
  replace RH := Aside0.mk (RH.out.below h16)
  replace RT := Aside0.mk (RT.out.below h16)
  replace RO := Aside0.mk (RO.out.below h16)
  replace RV := Aside0.mk (RV.out.below h16)
  replace RS := Aside0.mk (RS.out.below h16)
  replace RD := Aside0.mk (RD.out.below h16)
  replace HB := Aside0.mk (below_step HB.out h16)
  clear h16
  go_wp2_with fail
  refine (findsV (l := exM) RM.out 199 (1) true (by kernel_rfl)).mono ?_
  rintro e w17 ⟨rfl, h17⟩
  replace RM := Aside0.mk (RM.out.below h17)
  replace RG := Aside0.mk (RG.out.below h17)
  replace RH := Aside0.mk (RH.out.below h17)
  replace RT := Aside0.mk (RT.out.below h17)
  replace RO := Aside0.mk (RO.out.below h17)
  replace RV := Aside0.mk (RV.out.below h17)
  replace RS := Aside0.mk (RS.out.below h17)
  replace RD := Aside0.mk (RD.out.below h17)
  replace HB := Aside0.mk (below_step HB.out h17)
  clear h17
  go_wp2_with fail
  refine (findsV (l := exM) RM.out 200 (2) true (by kernel_rfl)).mono ?_
  rintro e w18 ⟨rfl, h18⟩
  replace RM := Aside0.mk (RM.out.below h18)
  replace RG := Aside0.mk (RG.out.below h18)
  replace RH := Aside0.mk (RH.out.below h18)
  replace RT := Aside0.mk (RT.out.below h18)
  replace RO := Aside0.mk (RO.out.below h18)
  replace RV := Aside0.mk (RV.out.below h18)
  replace RS := Aside0.mk (RS.out.below h18)
  replace RD := Aside0.mk (RD.out.below h18)
  replace HB := Aside0.mk (below_step HB.out h18)
  clear h18
  go_wp2_with fail
  refine (findsV (l := exM) RM.out 300 (-1) true (by kernel_rfl)).mono ?_
  rintro e w19 ⟨rfl, h19⟩
  replace RM := Aside0.mk (RM.out.below h19)
  replace RG := Aside0.mk (RG.out.below h19)
  replace RH := Aside0.mk (RH.out.below h19)
  replace RT := Aside0.mk (RT.out.below h19)
  replace RO := Aside0.mk (RO.out.below h19)
  replace RV := Aside0.mk (RV.out.below h19)
  replace RS := Aside0.mk (RS.out.below h19)
  replace RD := Aside0.mk (RD.out.below h19)
  replace HB := Aside0.mk (below_step HB.out h19)
  clear h19
  go_wp2_with fail
  refine (oneV 100 150 1 _).mono ?_
  rintro e w20 ⟨rfl, h20⟩
  replace RM := Aside0.mk (RM.out.below h20)
  replace RG := Aside0.mk (RG.out.below h20)
  replace RH := Aside0.mk (RH.out.below h20)
  replace RT := Aside0.mk (RT.out.below h20)
  replace RO := Aside0.mk (RO.out.below h20)
  replace RV := Aside0.mk (RV.out.below h20)
  replace RS := Aside0.mk (RS.out.below h20)
  replace RD := Aside0.mk (RD.out.below h20)
  replace HB := Aside0.mk (below_step HB.out h20)
  clear h20
  go_wp2_with fail
  refine (oneV 150 250 3 _).mono ?_
  rintro e w21 ⟨rfl, h21⟩
  replace RM := Aside0.mk (RM.out.below h21)
  replace RG := Aside0.mk (RG.out.below h21)
  replace RH := Aside0.mk (RH.out.below h21)
  replace RT := Aside0.mk (RT.out.below h21)
  replace RO := Aside0.mk (RO.out.below h21)
  replace RV := Aside0.mk (RV.out.below h21)
  replace RS := Aside0.mk (RS.out.below h21)
  replace RD := Aside0.mk (RD.out.below h21)
  replace HB := Aside0.mk (below_step HB.out h21)
  clear h21
  go_wp2_with fail
  refine (oneV 250 300 2 _).mono ?_
  rintro e w22 ⟨rfl, h22⟩
  replace RM := Aside0.mk (RM.out.below h22)
  replace RG := Aside0.mk (RG.out.below h22)
  replace RH := Aside0.mk (RH.out.below h22)
  replace RT := Aside0.mk (RT.out.below h22)
  replace RO := Aside0.mk (RO.out.below h22)
  replace RV := Aside0.mk (RV.out.below h22)
  replace RS := Aside0.mk (RS.out.below h22)
  replace RD := Aside0.mk (RD.out.below h22)
  replace HB := Aside0.mk (below_step HB.out h22)
  clear h22
  go_wp2_with fail
  have hal := (Below.refl _ w22).alloc (Nat.le_refl _) (.cells (flat ([bk 100 150 1, bk 150 250 3, bk 250 300 2] : List S53)).toArray 53)
  replace RM := Aside0.mk (RM.out.below hal)
  replace RG := Aside0.mk (RG.out.below hal)
  replace RH := Aside0.mk (RH.out.below hal)
  replace RT := Aside0.mk (RT.out.below hal)
  replace RO := Aside0.mk (RO.out.below hal)
  replace RV := Aside0.mk (RV.out.below hal)
  replace RS := Aside0.mk (RS.out.below hal)
  replace RD := Aside0.mk (RD.out.below hal)
  have RX := Aside0.mk (Rw_block w22 ([bk 100 150 1, bk 150 250 3, bk 250 300 2] : List S53) (by decide) (by decide))
  replace HB := Aside0.mk (below_step HB.out hal)
  clear hal
  refine (sameV (l := exG) RG.out RX.out (by decide) true (by kernel_rfl)).mono ?_
  rintro e w23 ⟨rfl, h23⟩
  replace RM := Aside0.mk (RM.out.below h23)
  replace RG := Aside0.mk (RG.out.below h23)
  replace RH := Aside0.mk (RH.out.below h23)
  replace RT := Aside0.mk (RT.out.below h23)
  replace RO := Aside0.mk (RO.out.below h23)
  replace RV := Aside0.mk (RV.out.below h23)
  replace RS := Aside0.mk (RS.out.below h23)
  replace RD := Aside0.mk (RD.out.below h23)
  replace RX := Aside0.mk (RX.out.below h23)
  replace HB := Aside0.mk (below_step HB.out h23)
  clear h23
  go_wp2_with fail
  clear RX
  clear RG
  refine (oneV 100 300 1 _).mono ?_
  rintro e w24 ⟨rfl, h24⟩
  replace RM := Aside0.mk (RM.out.below h24)
  replace RH := Aside0.mk (RH.out.below h24)
  replace RT := Aside0.mk (RT.out.below h24)
  replace RO := Aside0.mk (RO.out.below h24)
  replace RV := Aside0.mk (RV.out.below h24)
  replace RS := Aside0.mk (RS.out.below h24)
  replace RD := Aside0.mk (RD.out.below h24)
  replace HB := Aside0.mk (below_step HB.out h24)
  clear h24
  go_wp2_with fail
  have hal := (Below.refl _ w24).alloc (Nat.le_refl _) (.cells (flat ([bk 100 300 1] : List S53)).toArray 53)
  replace RM := Aside0.mk (RM.out.below hal)
  replace RH := Aside0.mk (RH.out.below hal)
  replace RT := Aside0.mk (RT.out.below hal)
  replace RO := Aside0.mk (RO.out.below hal)
  replace RV := Aside0.mk (RV.out.below hal)
  replace RS := Aside0.mk (RS.out.below hal)
  replace RD := Aside0.mk (RD.out.below hal)
  have RX := Aside0.mk (Rw_block w24 ([bk 100 300 1] : List S53) (by decide) (by decide))
  replace HB := Aside0.mk (below_step HB.out hal)
  clear hal
  refine (sameV (l := exH) RH.out RX.out (by decide) true (by kernel_rfl)).mono ?_
  rintro e w25 ⟨rfl, h25⟩
  replace RM := Aside0.mk (RM.out.below h25)
  replace RH := Aside0.mk (RH.out.below h25)
  replace RT := Aside0.mk (RT.out.below h25)
  replace RO := Aside0.mk (RO.out.below h25)
  replace RV := Aside0.mk (RV.out.below h25)
  replace RS := Aside0.mk (RS.out.below h25)
  replace RD := Aside0.mk (RD.out.below h25)
  replace RX := Aside0.mk (RX.out.below h25)
  replace HB := Aside0.mk (below_step HB.out h25)
  clear h25
  go_wp2_with fail
  clear RX
  refine (oneV 101 200 1 _).mono ?_
  rintro e w26 ⟨rfl, h26⟩
  replace RM := Aside0.mk (RM.out.below h26)
  replace RH := Aside0.mk (RH.out.below h26)
  replace RT := Aside0.mk (RT.out.below h26)
  replace RO := Aside0.mk (RO.out.below h26)
  replace RV := Aside0.mk (RV.out.below h26)
  replace RS := Aside0.mk (RS.out.below h26)
  replace RD := Aside0.mk (RD.out.below h26)
  replace HB := Aside0.mk (below_step HB.out h26)
  clear h26
  go_wp2_with fail
  refine (oneV 200 300 2 _).mono ?_
  rintro e w27 ⟨rfl, h27⟩
  replace RM := Aside0.mk (RM.out.below h27)
  replace RH := Aside0.mk (RH.out.below h27)
  replace RT := Aside0.mk (RT.out.below h27)
  replace RO := Aside0.mk (RO.out.below h27)
  replace RV := Aside0.mk (RV.out.below h27)
  replace RS := Aside0.mk (RS.out.below h27)
  replace RD := Aside0.mk (RD.out.below h27)
  replace HB := Aside0.mk (below_step HB.out h27)
  clear h27
  go_wp2_with fail
  have hal := (Below.refl _ w27).alloc (Nat.le_refl _) (.cells (flat ([bk 101 200 1, bk 200 300 2] : List S53)).toArray 53)
  replace RM := Aside0.mk (RM.out.below hal)
  replace RH := Aside0.mk (RH.out.below hal)
  replace RT := Aside0.mk (RT.out.below hal)
  replace RO := Aside0.mk (RO.out.below hal)
  replace RV := Aside0.mk (RV.out.below hal)
  replace RS := Aside0.mk (RS.out.below hal)
  replace RD := Aside0.mk (RD.out.below hal)
  have RX := Aside0.mk (Rw_block w27 ([bk 101 200 1, bk 200 300 2] : List S53) (by decide) (by decide))
  replace HB := Aside0.mk (below_step HB.out hal)
  clear hal
  refine (sameV (l := exT) RT.out RX.out (by decide) true (by kernel_rfl)).mono ?_
  rintro e w28 ⟨rfl, h28⟩
  replace RM := Aside0.mk (RM.out.below h28)
  replace RH := Aside0.mk (RH.out.below h28)
  replace RT := Aside0.mk (RT.out.below h28)
  replace RO := Aside0.mk (RO.out.below h28)
  replace RV := Aside0.mk (RV.out.below h28)
  replace RS := Aside0.mk (RS.out.below h28)
  replace RD := Aside0.mk (RD.out.below h28)
  replace RX := Aside0.mk (RX.out.below h28)
  replace HB := Aside0.mk (below_step HB.out h28)
  clear h28
  go_wp2_with fail
  clear RX
  clear RT
  refine (oneV 100 101 1 _).mono ?_
  rintro e w29 ⟨rfl, h29⟩
  replace RM := Aside0.mk (RM.out.below h29)
  replace RH := Aside0.mk (RH.out.below h29)
  replace RO := Aside0.mk (RO.out.below h29)
  replace RV := Aside0.mk (RV.out.below h29)
  replace RS := Aside0.mk (RS.out.below h29)
  replace RD := Aside0.mk (RD.out.below h29)
  replace HB := Aside0.mk (below_step HB.out h29)
  clear h29
  go_wp2_with fail
  have hal := (Below.refl _ w29).alloc (Nat.le_refl _) (.cells (flat ([bk 100 101 1] : List S53)).toArray 53)
  replace RM := Aside0.mk (RM.out.below hal)
  replace RH := Aside0.mk (RH.out.below hal)
  replace RO := Aside0.mk (RO.out.below hal)
  replace RV := Aside0.mk (RV.out.below hal)
  replace RS := Aside0.mk (RS.out.below hal)
  replace RD := Aside0.mk (RD.out.below hal)
  have RX := Aside0.mk (Rw_block w29 ([bk 100 101 1] : List S53) (by decide) (by decide))
  replace HB := Aside0.mk (below_step HB.out hal)
  clear hal
  refine (sameV (l := exO) RO.out RX.out (by decide) true (by kernel_rfl)).mono ?_
  rintro e w30 ⟨rfl, h30⟩
  replace RM := Aside0.mk (RM.out.below h30)
  replace RH := Aside0.mk (RH.out.below h30)
  replace RO := Aside0.mk (RO.out.below h30)
  replace RV := Aside0.mk (RV.out.below h30)
  replace RS := Aside0.mk (RS.out.below h30)
  replace RD := Aside0.mk (RD.out.below h30)
  replace RX := Aside0.mk (RX.out.below h30)
  replace HB := Aside0.mk (below_step HB.out h30)
  clear h30
  go_wp2_with fail
  clear RX
  clear RO
  refine (oneV 100 200 1 _).mono ?_
  rintro e w31 ⟨rfl, h31⟩
  replace RM := Aside0.mk (RM.out.below h31)
  replace RH := Aside0.mk (RH.out.below h31)
  replace RV := Aside0.mk (RV.out.below h31)
  replace RS := Aside0.mk (RS.out.below h31)
  replace RD := Aside0.mk (RD.out.below h31)
  replace HB := Aside0.mk (below_step HB.out h31)
  clear h31
  go_wp2_with fail
  refine (oneV 200 400 2 _).mono ?_
  rintro e w32 ⟨rfl, h32⟩
  replace RM := Aside0.mk (RM.out.below h32)
  replace RH := Aside0.mk (RH.out.below h32)
  replace RV := Aside0.mk (RV.out.below h32)
  replace RS := Aside0.mk (RS.out.below h32)
  replace RD := Aside0.mk (RD.out.below h32)
  replace HB := Aside0.mk (below_step HB.out h32)
  clear h32
  go_wp2_with fail
  have hal := (Below.refl _ w32).alloc (Nat.le_refl _) (.cells (flat ([bk 100 200 1, bk 200 400 2] : List S53)).toArray 53)
  replace RM := Aside0.mk (RM.out.below hal)
  replace RH := Aside0.mk (RH.out.below hal)
  replace RV := Aside0.mk (RV.out.below hal)
  replace RS := Aside0.mk (RS.out.below hal)
  replace RD := Aside0.mk (RD.out.below hal)
  have RX := Aside0.mk (Rw_block w32 ([bk 100 200 1, bk 200 400 2] : List S53) (by decide) (by decide))
  replace HB := Aside0.mk (below_step HB.out hal)
  clear hal
  refine (sameV (l := exV) RV.out RX.out (by decide) true (by kernel_rfl)).mono ?_
  rintro e w33 ⟨rfl, h33⟩
  replace RM := Aside0.mk (RM.out.below h33)
  replace RH := Aside0.mk (RH.out.below h33)
  replace RV := Aside0.mk (RV.out.below h33)
  replace RS := Aside0.mk (RS.out.below h33)
  replace RD := Aside0.mk (RD.out.below h33)
  replace RX := Aside0.mk (RX.out.below h33)
  replace HB := Aside0.mk (below_step HB.out h33)
  clear h33
  go_wp2_with fail
  clear RX
  clear RV
  refine (sameV (l := exH) (m := exH) RS.out RH.out (by decide) true (by kernel_rfl)).mono ?_
  rintro e w34 ⟨rfl, h34⟩
  replace RM := Aside0.mk (RM.out.below h34)
  replace RH := Aside0.mk (RH.out.below h34)
  replace RS := Aside0.mk (RS.out.below h34)
  replace RD := Aside0.mk (RD.out.below h34)
  replace HB := Aside0.mk (below_step HB.out h34)
  clear h34
  go_wp2_with fail
  clear RS
  clear RH
  have hal := (Below.refl _ w34).alloc (Nat.le_refl _) (.cells (flat2 ([⟨150, 250⟩] : List S26)).toArray 26)
  replace RM := Aside0.mk (RM.out.below hal)
  replace RD := Aside0.mk (RD.out.below hal)
  have RX := Aside0.mk (Rw2_block w34 ([⟨150, 250⟩] : List S26) (by decide) (by decide))
  replace HB := Aside0.mk (below_step HB.out hal)
  clear hal
  refine (same2V (l := [⟨150, 250⟩]) RD.out RX.out (by decide) true (by kernel_rfl)).mono ?_
  rintro e w35 ⟨rfl, h35⟩
  replace RM := Aside0.mk (RM.out.below h35)
  replace RD := Aside0.mk (RD.out.below h35)
  replace RX := Aside0.mk (RX.out.below h35)
  replace HB := Aside0.mk (below_step HB.out h35)
  clear h35
  go_wp2_with fail
  clear RX
  clear RD
  refine (countV (l := exM) RM.out 1 100 exN_is).mono ?_
  rintro e w36 ⟨rfl, h36⟩
  replace RM := Aside0.mk (RM.out.below h36)
  replace HB := Aside0.mk (below_step HB.out h36)
  clear h36
  go_wp2_with fail
  refine (validV (l := exM) RM.out true exW_is).mono ?_
  rintro e w37 ⟨rfl, h37⟩
  replace RM := Aside0.mk (RM.out.below h37)
  replace HB := Aside0.mk (below_step HB.out h37)
  clear h37
  go_wp2_with fail
  refine (oneV 100 200 1 _).mono ?_
  rintro e w38 ⟨rfl, h38⟩
  replace RM := Aside0.mk (RM.out.below h38)
  replace HB := Aside0.mk (below_step HB.out h38)
  clear h38
  go_wp2_with fail
  refine (oneV 200 300 1 _).mono ?_
  rintro e w39 ⟨rfl, h39⟩
  replace RM := Aside0.mk (RM.out.below h39)
  replace HB := Aside0.mk (below_step HB.out h39)
  clear h39
  go_wp2_with fail
  have hal := (Below.refl _ w39).alloc (Nat.le_refl _) (.cells (flat ([bk 100 200 1, bk 200 300 1] : List S53)).toArray 53)
  replace RM := Aside0.mk (RM.out.below hal)
  have RX := Aside0.mk (Rw_block w39 ([bk 100 200 1, bk 200 300 1] : List S53) (by decide) (by decide))
  replace HB := Aside0.mk (below_step HB.out hal)
  clear hal
  refine (validV RX.out false exX_is).mono ?_
  rintro e w40 ⟨rfl, h40⟩
  replace RM := Aside0.mk (RM.out.below h40)
  replace RX := Aside0.mk (RX.out.below h40)
  replace HB := Aside0.mk (below_step HB.out h40)
  clear h40
  go_wp2_with fail
  go_ret
  exact ⟨rfl, HB.out⟩
end Go.Proofs.Ytdflgjgoikofaaa.Bk

namespace Go.Proofs.Ytdflgjgoikofaaa.Bk
open Go Go.RowKit Go.ChangeShapes Go.WideShapes Go.ChangeAt
open Go.Proofs.Ytdflgjgoikofaaa.Ref Go.Proofs.Ytdflgjgoikofaaa.Pl

theorem cells23 : Try.prog.cellsOf 23 = 3 := by kernel_rfl
theorem cells3_ : Try.prog.cellsOf 3 = 1 := by kernel_rfl
theorem I64_of_wf {n : Int} (h : (Lit.int .i64 n).wf = true) : I64 n := by
  have := bounds_i64 h
  unfold I64
  omega
theorem trip_of_trod {H : Type} {enc : TypeId × Value → H} {W : World} {base : Nat} {spare : Nat → Bool} {held : Bool} {fuel : Nat} {a : Option Addr} {len cap : Nat} {x : DataW H × List MemPlace}
    (h : DataW.trod enc Try.prog W base spare held fuel 22 [.slice a len cap] = some x) :
    ∃ xs : List (Int × Int × Int), xs.length = len ∧ len ≤ cap ∧ len ≤ maxLen ∧ Trip W a xs := by
  rcases Go.Deep.open_slice Try.underlying22 h with ⟨hcs, _⟩ | ⟨ad, l, c, m, n, D, Q, hcs, _, hl, hm, hmm, _, hx⟩
  · simp at hcs
    obtain ⟨rfl, rfl, rfl⟩ := hcs
    exact ⟨[], rfl, Nat.le_refl _, by unfold maxLen; omega, fun x hx => by simp at hx, fun h0 => absurd h0 (by simp)⟩
  · simp at hcs
    obtain ⟨rfl, rfl, rfl⟩ := hcs
    have hlm : len ≤ m := by rw [hmm]; split <;> omega
    rw [cells23] at hx
    have key : ∀ i, i < len → ∃ y : Int × Int × Int, (I64 y.1 ∧ I64 y.2.1 ∧ I64 y.2.2) ∧ W.cell? (ad.add (i * 3)) = some (.int .i64 y.1) ∧ W.cell? ⟨(ad.add (i * 3)).block, (ad.add (i * 3)).off + 1, none⟩ = some (.int .i64 y.2.1) ∧ W.cell? ⟨(ad.add (i * 3)).block, (ad.add (i * 3)).off + 2, none⟩ = some (.int .i64 y.2.2) := by
      intro i hi
      obtain ⟨cs', h1, h2⟩ := hx i (by omega)
      obtain ⟨_, h3, h4⟩ := World.cells?_some h1
      match cs', h3 with
      | [c0, c1, c2], _ =>
        obtain ⟨y0, y1, y2, k, _, t0, t1, t2⟩ := trod_array3 Try.underlying23 cells3_ h2
        obtain ⟨n0, e0, _, w0⟩ := DataW.trod_int Try.underlying3 t0
        obtain ⟨n1, e1, _, w1⟩ := DataW.trod_int Try.underlying3 t1
        obtain ⟨n2, e2, _, w2⟩ := DataW.trod_int Try.underlying3 t2
        simp at e0 e1 e2
        subst e0 e1 e2
        refine ⟨(n0, n1, n2), ⟨I64_of_wf w0, I64_of_wf w1, I64_of_wf w2⟩, ?_, ?_, ?_⟩
        · have := h4 0 (by omega); rw [Go.Deep.add_add] at this; exact this
        · have := h4 1 (by omega); rw [show (1 : Nat) = 0 + 1 from rfl, add_succ] at this; exact this
        · have := h4 2 (by omega); rw [show (2 : Nat) = 1 + 1 from rfl, add_succ] at this; exact this
    obtain ⟨F, hF⟩ := Go.Deep.choose_lt (α := Int × Int × Int) key
    refine ⟨(List.range len).map F, by simp, hl, by omega, fun x hx => ?_, fun _ => ⟨ad, rfl, fun i hi => ?_⟩⟩
    · obtain ⟨i, hi, rfl⟩ := List.mem_map.1 hx
      exact (hF i (List.mem_range.1 hi)).1
    · simp only [List.length_map, List.length_range] at hi
      have e : ((List.range len).map F).getD i (0, 0, 0) = F i := by rw [List.getD_eq_getElem?_getD, List.getElem?_map, List.getElem?_range hi]; rfl
      rw [e]
      exact (hF i hi).2
theorem cells35 : Try.prog.cellsOf 35 = 2 := by kernel_rfl
theorem open_two {H : Type} {enc : TypeId × Value → H} {W : World} {base base' : Nat} {spare : Nat → Bool} {held : Bool} {v : Value} {d : DataW H} {ps : List MemPlace}
    (hv : Value.okWide Try.prog W .any base' 35 v) (h : DataW.Trod enc Try.prog W base spare held 35 v d ps) : ∃ q0 q1, v = .agg #[.int .i64 q0, .int .i64 q1] ∧ I64 q0 ∧ I64 q1 := by
  simp only [Value.okWide, Try.underlying35] at hv
  obtain ⟨cs, rfl, h2, _⟩ := hv
  rw [cells35] at h2
  obtain ⟨fuel, hf⟩ := h
  obtain ⟨c0, c1, rfl⟩ : ∃ c0 c1, cs = #[c0, c1] := by
    match cs, h2 with
    | ⟨[c0, c1]⟩, _ => exact ⟨c0, c1, rfl⟩
  obtain ⟨xs, m, _, _, _, hl, hx⟩ := DataW.trod_array Try.underlying35 hf
  rw [cells3_] at hx
  have g0 := hx 0 (by omega)
  have g1 := hx 1 (by omega)
  simp [Value.cells] at g0 g1
  obtain ⟨x0, hx0⟩ : ∃ x, xs[0]? = some x := ⟨_, List.getElem?_eq_getElem (by omega)⟩
  obtain ⟨x1, hx1⟩ : ∃ x, xs[1]? = some x := ⟨_, List.getElem?_eq_getElem (by omega)⟩
  rw [hx0] at g0
  rw [hx1] at g1
  obtain ⟨n0, e0, _, w0⟩ := DataW.trod_int Try.underlying3 g0
  obtain ⟨n1, e1, _, w1⟩ := DataW.trod_int Try.underlying3 g1
  simp at e0 e1
  subst e0 e1
  exact ⟨n0, n1, rfl, I64_of_wf w0, I64_of_wf w1⟩
end Go.Proofs.Ytdflgjgoikofaaa.Bk
