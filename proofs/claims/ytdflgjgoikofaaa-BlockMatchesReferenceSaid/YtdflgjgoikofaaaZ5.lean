/- What the functions of the reference return. -/
import Derived.Test.YtdflgjgoikofaaaZ3
import Derived.Test.YtdflgjgoikofaaaZ1
import Derived.Deep.RegionLaw
import Derived.Deep.RegionLawGrows
import Derived.Test.YtdflgjgoikofaaaZ4
import Derived.Deep.DeepCutAuto
set_option linter.unusedVariables false
set_option linter.unusedSimpArgs false
namespace Go.Proofs.Ytdflgjgoikofaaa.Bk
open Go.RowKit Go.Shelf Go.Proofs.YtdflgjgoikofaaaW.PrintWords Go.Proofs.YtdflgjgoikofaaaW.PrintLast Go.Proofs.YtdflgjgoikofaaaW.PrintMore
open Go.Proofs.Ytdflgjgoikofaaa.Ref Go.Proofs.Ytdflgjgoikofaaa.Pl Go.Proofs.Ytdflgjgoikofaaa.Rg

/-- Whole numbers handed back, to be read. -/
def IntsRes (r : List Int) (w : World) (e : Ending) (w' : World) : Prop :=
  ∃ A c, e = .returned (.slice A r.length c) ∧ r.length ≤ c ∧ Kd.C (Kd.int .i64) w' A r.length r ∧ Below w.heap.size w w'

theorem info3 : (Try.prog.info? 3).map (fun i => (i.zero, i.size, i.bytes)) = some (some (.int .i64 0), 1, 8) := by kernel_rfl
theorem run_append_zero {P : Program} (w : World) (t ty e : TypeId) (i : TypeInfo) (ht : P.underlying t = some (.slice e)) (hi : P.info? e = some i) (ao : Option Addr) (n cap : Nat) (h : n ≤ cap) (A : Option Addr) (c : Nat) :
    (Builtin.append_ #[t, t] ty #[.slice ao n cap, .slice A 0 c]).run P w = .ok (.slice ao n cap) w := by
  cases ao <;> cases A <;> simp [Builtin.append_, run_underlying ht, sizeOf, typeInfo, hi, Builtin.lenOf, Builtin.firstCells, h, storeCells, loadCells, loadCellsFrom, Result.andThen]
theorem step_append_zero {P : Program} {ops : Array Oper} {o : Oper} {a : Act} {w : World} {K : Act → World → Prop} {Q : Exit → Act → World → Prop} {E : Prop}
    (hg : o.guard = none) (s x : Operand) (t : TypeId) (hop : o.op = Op.call { callee := Callee.builtin Builtin.append, args := #[s, x], argTypes := #[t, t] })
    (e : TypeId) (i : TypeInfo) (h1 : P.underlying t = some (.slice e)) (h2 : P.info? e = some i)
    (ao : Option Addr) (n cap : Nat) (hn : n ≤ cap) (hs : a.eval s = .slice ao n cap) (A : Option Addr) (c : Nat) (hx : a.eval x = .slice A 0 c)
    (hK : K (a.put o.dst (.slice ao n cap)) w) : if Region.wanted o (yielded ops a.tmps) = true then Oper.wp P o a w K Q else E := by
  have hw : Region.wanted o (yielded ops a.tmps) = true := by simp [Region.wanted, hg]
  rw [if_pos hw]
  unfold Oper.wp
  have hr := run_append_zero (P := P) w t o.type e i h1 h2 ao n cap hn A c
  simp [execOp, hop, resolve, invoke, builtin, hs, hx, hr, Result.andThen]
  exact hK

theorem nums_get (l : List Int) (j : Nat) (u : Value) (h : (nums .i64 l)[j]? = some u) : j < l.length ∧ u = .int .i64 (l.getD j 0) := by
  have hj : j < l.length := by have := (List.getElem?_eq_some_iff.1 h).1; simpa [nums] using this
  refine ⟨hj, ?_⟩
  rw [List.getD_eq_getElem?_getD]
  simp [nums, List.getElem?_eq_getElem hj] at h ⊢
  exact h.symm
theorem nums_one (l : List Int) : ∀ u ∈ nums .i64 l, u.oneCell' = true := by
  intro u hu
  simp only [nums, List.mem_map] at hu
  obtain ⟨x, _, rfl⟩ := hu
  rfl
theorem cells_pre {w W : World} {ad : Addr} {l : List Int} (hcell : ∀ j, j < l.length → w.cell? (ad.add j) = some (.int .i64 (l.getD j 0))) (hW : ∀ p v, w.cell? p = some v → W.cell? p = some v) (k : Nat) (hk : k ≤ l.length) :
    ∀ j u, (nums .i64 (l.take k))[j]? = some u → W.cell? (ad.add j) = some u := by
  intro j u hu
  obtain ⟨hj, rfl⟩ := nums_get _ _ _ hu
  have hjk : j < k := by simp at hj; omega
  refine hW _ _ ?_
  rw [hcell j (by omega)]
  simp [List.getD_eq_getElem?_getD, List.getElem?_take, hjk]
theorem cells_suf {w W : World} {ad : Addr} {l : List Int} (hcell : ∀ j, j < l.length → w.cell? (ad.add j) = some (.int .i64 (l.getD j 0))) (hW : ∀ p v, w.cell? p = some v → W.cell? p = some v) (k : Nat) (hk : k ≤ l.length) :
    ∀ j u, (nums .i64 (l.drop k))[j]? = some u → W.cell? ((ad.add k).add j) = some u := by
  intro j u hu
  obtain ⟨hj, rfl⟩ := nums_get _ _ _ hu
  have hjk : j < l.length - k := by simpa using hj
  refine hW _ _ ?_
  have e : (ad.add k).add j = ad.add (k + j) := by
    unfold Addr.add
    by_cases h1 : k = 0 <;> by_cases h2 : j = 0 <;> simp [h1, h2, Nat.add_assoc]
  rw [e, hcell (k + j) (by omega)]
  simp [List.getD_eq_getElem?_getD]
theorem cell_alloc_keep (w : World) (o : Obj) : ∀ p v, w.cell? p = some v → (w.alloc o).cell? p = some v := fun p v h => pw_cell_below ((Below.refl _ w).alloc (Nat.le_refl _) o) h
theorem cell_grown_keep {w w1 : World} (hg : w.grownBy w1 none) : ∀ p v, w.cell? p = some v → w1.cell? p = some v := fun p v h => (World.cell?_of_block (hg.block p.block (World.block_lt_of_cell? w p h) (by simp))).trans h
theorem below_grown_none {w w1 : World} (hg : w.grownBy w1 none) : Below w.heap.size w w1 := ⟨hg.os, hg.tape, hg.output, hg.size, fun k hk => hg.block k hk (by simp)⟩
/-- What a row of the call's own, written flat, reads as. -/
theorem C_of_own {w : World} {base : Nat} {v : Value} {l : List Int} {n : Nat} (h : w.ownsRow base 3 1 v n (nums .i64 l)) : ∃ A c, v = .slice A l.length c ∧ l.length ≤ c ∧ Kd.C (Kd.int .i64) w A l.length l := by
  have hn : n = l.length := by have := h.1; simp [nums] at this; omega
  subst hn
  have hR : Kd.R (Kd.int .i64) 3 w base (fun _ => True) v l := Kd.R_of_own h (fun _ _ => trivial)
  exact Kd.R_reads hR

set_option maxHeartbeats 2000000 in
theorem put_calls (l : List Int) (A : Option Addr) (c : Nat) (n : Int) (w : World) (hl : Kd.C (Kd.int .i64) w A l.length l) (hc : l.length ≤ c) (hlen : l.length ≤ 1000) (hpos : 0 < l.length) :
    Calls Try.prog 68 #[.slice A l.length c, .int .i64 n] w (IntsRes (putP l n) w) := by
  have hR := Kd.reads_of_C (d := (0 : Int)) hl
  have HR := Aside0.mk hR
  have HL := Aside0.mk hl
  have HC := Aside0.mk hc
  have HN := Aside0.mk hlen
  have HPOS := Aside0.mk hpos
  clear hl hc hR hlen hpos
  go_enter Try.func68, Try.ntmps68
  go_wp2_with fail
  go_loopg [5] l.length (fun kq v wr => ∃ k : Nat, v = .int .i64 (k : Int) ∧ Aside0 (k + kq = l.length) ∧ Aside0 (∀ j, j < k → l.getD j 0 < n) ∧ wr = w)
  case atStart => exact ⟨0, rfl, ⟨by omega⟩, ⟨fun j hj => by omega⟩, rfl⟩
  case round =>
    obtain ⟨k, rfl, HK, HP, rfl⟩ := hrel
    obtain ⟨i0, hi, hz0, hz1, hz2⟩ := info_parts info3
    by_cases hk : k < l.length
    · have hkb : decide ((k : Int) < (l.length : Int)) = true := decide_eq_true (by omega)
      have q1 := eq_true (show (k : Int) < (l.length : Int) by omega)
      have q2 := eq_true (show (0 : Int) ≤ (k : Int) by omega)
      obtain ⟨ad, rfl, hcell⟩ := HR.out.2.2 (by omega)
      have hcl := hcell k hk
      simp only [List.getD_eq_getElem?_getD] at hcl
      have HCELL := Aside0.mk hcell
      have hk1 : k ≤ 1000 := by have := HN.out; omega
      have HKL := Aside0.mk hk
      clear hcell hk
      by_cases hlt : (l[k]?.getD 0) < n
      · have hb : decide ((l[k]?.getD 0) < n) = true := decide_eq_true hlt
        have HLT := Aside0.mk hlt
        clear hlt
        go_wp2_with fail
        go_roundg (l.length - (k + 1))
        case measure => have := HK.out; have := HKL.out; omega
        case rel => exact ⟨k + 1, by go_num, ⟨by have := HK.out; have := HKL.out; omega⟩, ⟨fun j hj => by
          rcases Nat.lt_or_ge j k with h | h
          · exact HP.out j h
          · rw [show j = k by omega, List.getD_eq_getElem?_getD]; exact HLT.out⟩, rfl⟩
      · have hb : decide ((l[k]?.getD 0) < n) = false := decide_eq_false hlt
        have hsp : l = l.take k ++ l.drop k := (List.take_append_drop k l).symm
        have hdr : l.drop k = l[k]'HKL.out :: l.drop (k + 1) := List.drop_eq_getElem_cons HKL.out
        have hge : l[k]?.getD 0 = l[k]'HKL.out := by rw [List.getElem?_eq_getElem HKL.out]; rfl
        have hpre : ∀ x ∈ l.take k, x < n := fun x hx => by
          obtain ⟨j, hj, rfl⟩ := List.getElem_of_mem hx
          have hjk : j < k := by simp at hj; omega
          have := HP.out j hjk
          rw [List.getElem_take]
          rwa [List.getD_eq_getElem?_getD, List.getElem?_eq_getElem (by have := HKL.out; omega)] at this
        have hput : putP l n = l.take k ++ putP (l.drop k) n := by conv => lhs; rw [hsp]
                                                                   exact putP_pre _ _ _ hpre
        rw [hdr] at hput
        simp only [putP, ← hge, if_neg hlt] at hput
        have HSP := Aside0.mk hsp
        have HDR := Aside0.mk hdr
        have HGE := Aside0.mk hge
        clear hsp hdr hge hpre
        by_cases heq : l[k]?.getD 0 = n
        · have hbe : (l[k]?.getD 0 == n) = true := beq_iff_eq.mpr heq
          rw [if_pos heq, HGE.out, ← HDR.out, ← HSP.out] at hput
          have HPUT := Aside0.mk hput
          clear hput heq hlt
          go_wp2_with fail
          go_ret
          exact ⟨some ad, c, by rw [HPUT.out]; rfl, by rw [HPUT.out]; exact HC.out, by rw [HPUT.out]; exact HL.out, Below.refl _ _⟩
        · have hbe : (l[k]?.getD 0 == n) = false := beq_eq_false_iff_ne.mpr heq
          rw [if_neg heq, HGE.out, ← HDR.out] at hput
          have HPUT := Aside0.mk hput
          clear hput heq hlt
          have hcap : ¬ c = k := by have := HC.out; have := HKL.out; omega
          have hcapb : (c == k) = false := beq_eq_false_iff_ne.mpr hcap
          have hkc : k ≤ c := by have := HC.out; have := HKL.out; omega
          have hml : 0 < l.length - k := by have := HKL.out; omega
          have hm2 : l.length ≤ 1000 := HN.out
          have hlc : l.length ≤ c := HC.out
          have hne : k ≤ l.length := by have := HKL.out; omega
          have ONE := Aside0.mk (show ∀ u ∈ [Value.int .i64 n] ++ nums .i64 (l.drop k), u.oneCell' = true from fun u hu => by rcases List.mem_append.1 hu with h | h; exact (by rw [List.mem_singleton.1 h]; rfl); exact nums_one _ u h)
          have N1 := Aside0.mk (cells_suf HCELL.out (cell_alloc_keep wr (.cells #[.int .i64 n] 3)) k hne)
          go_wp2_with fail
          go_region_law (first
            | (refine step_append_grows rfl (.tmp 38) (.tmp 41) 36 rfl 3 i0 (.int .i64 0) 1 8 Try.underlying36 hi hz0 hz1 hz2 rfl (by decide) (some ⟨wr.heap.size, 0, none⟩) 1 1 [.int .i64 n] (by simp [Act.eval, Act.put]) (by simp) rfl (fun b hb => by cases hb; exact cell_one_new _ _ _) (ad.add k) (l.length - k) (c - k) (nums .i64 (l.drop k)) (by simp [Act.eval, Act.put]) (by simp [nums]) N1.out (nums_one _) (by omega) (by unfold maxLen; omega) (by omega) ?_; intro v1 w1 hown1 hgrow1; obtain ⟨g1, cap1, rfl, _, _⟩ := hown1.form (by omega); have HO1 := Aside0.mk hown1; have HG1 := Aside0.mk (cell_grown_keep hgrow1); have HB1 := Aside0.mk (below_grown_none hgrow1); clear hown1 hgrow1)
            | (refine step_append_grows rfl (.tmp 36) (.tmp 42) 36 rfl 3 i0 (.int .i64 0) 1 8 Try.underlying36 hi hz0 hz1 hz2 rfl (by decide) (some ad) k k (nums .i64 (l.take k)) (by simp [Act.eval, Act.put]) (by simp) (by simp [nums]; omega) (fun b hb => by cases hb; exact cells_pre HCELL.out (fun p v h => HG1.out p v (cell_alloc_keep wr (.cells #[.int .i64 n] 3) p v h)) k hne) ⟨g1, 0, none⟩ (1 + (l.length - k)) cap1 ([.int .i64 n] ++ nums .i64 (l.drop k)) (by simp [Act.eval, Act.put]) (by simp [nums]; omega) (HO1.out.cells rfl) ONE.out (by omega) (by unfold maxLen; omega) (by omega) ?_; intro v2 w2 hown2 hgrow2; have HO2 := Aside0.mk hown2; have HB2 := Aside0.mk (below_grown_none hgrow2); clear hown2 hgrow2))
          have e2 : nums .i64 (l.take k) ++ ([Value.int .i64 n] ++ nums .i64 (l.drop k)) = nums .i64 (putP l n) := by rw [HPUT.out]; simp [nums]
          have hown := HO2.out
          rw [e2] at hown
          obtain ⟨Af, cf, rfl, hcf, hCf⟩ := C_of_own hown
          have HCf := Aside0.mk hCf
          have HBf := Aside0.mk (below_step (below_step (below_drew ((Below.refl _ wr).alloc (Nat.le_refl _) (.cells #[.int .i64 n] 3))) HB1.out) HB2.out)
          clear hown e2 hCf
          go_wp2_with fail
          go_ret
          exact ⟨Af, cf, rfl, hcf, HCf.out, HBf.out⟩
    · obtain rfl : k = l.length := by have := HK.out; omega
      obtain ⟨ad, rfl, hcell⟩ := HR.out.2.2 HPOS.out
      have HCELL := Aside0.mk hcell
      have hpre : ∀ x ∈ l, x < n := fun x hx => by
        obtain ⟨j, hj, rfl⟩ := List.getElem_of_mem hx
        have := HP.out j hj
        rwa [List.getD_eq_getElem?_getD, List.getElem?_eq_getElem hj] at this
      have hput : putP l n = l ++ [n] := by
        have := putP_pre l [] n hpre
        rwa [List.append_nil] at this
      have HPUT := Aside0.mk hput
      clear hpre hput hcell hk HK HP
      have hm2 : l.length ≤ 1000 := HN.out
      have hlc : l.length ≤ c := HC.out
      have hs0 : l.length - l.length = 0 := Nat.sub_self _
      by_cases hcap : c = l.length
      all_goals
        first | (have hcapb : (c == l.length) = true := beq_iff_eq.mpr hcap) | (have hcapb : (c == l.length) = false := beq_eq_false_iff_ne.mpr hcap)
        go_wp2_with fail
        go_region_law (first
          | (refine step_append_zero rfl (.tmp 38) (.tmp 41) 36 rfl 3 i0 Try.underlying36 hi (some ⟨wr.heap.size, 0, none⟩) 1 1 (Nat.le_refl _) (by simp [Act.eval, Act.put]) _ _ (by simp [Act.eval, Act.put]; first | rfl | exact ⟨rfl, rfl⟩) ?_)
          | (refine step_append_grows rfl (.tmp 36) (.tmp 42) 36 rfl 3 i0 (.int .i64 0) 1 8 Try.underlying36 hi hz0 hz1 hz2 rfl (by decide) (some ad) l.length l.length (nums .i64 l) (by simp [Act.eval, Act.put]) (by simp) (by simp [nums]) (fun b hb => by cases hb; exact (by have h := cells_pre HCELL.out (cell_alloc_keep wr (.cells #[.int .i64 n] 3)) l.length (Nat.le_refl _); rwa [List.take_length] at h)) ⟨wr.heap.size, 0, none⟩ 1 1 [.int .i64 n] (by simp [Act.eval, Act.put]) (by simp) (cell_one_new _ _ _) (by simp [Value.oneCell']) (by omega) (by unfold maxLen; omega) (by omega) ?_; intro v2 w2 hown2 hgrow2; have HO2 := Aside0.mk hown2; have HB2 := Aside0.mk (below_grown_none hgrow2); clear hown2 hgrow2))
        have e2 : nums .i64 l ++ [Value.int .i64 n] = nums .i64 (putP l n) := by rw [HPUT.out]; simp [nums]
        have hown := HO2.out
        rw [e2] at hown
        obtain ⟨Af, cf, rfl, hcf, hCf⟩ := C_of_own hown
        have HCf := Aside0.mk hCf
        have HBf := Aside0.mk (below_step (below_drew ((Below.refl _ wr).alloc (Nat.le_refl _) (.cells #[.int .i64 n] 3))) HB2.out)
        clear hown e2 hCf
        go_wp2_with fail
        go_ret
        exact ⟨Af, cf, rfl, hcf, HCf.out, HBf.out⟩
end Go.Proofs.Ytdflgjgoikofaaa.Bk

namespace Go.Proofs.Ytdflgjgoikofaaa.Bk
open Go.RowKit Go.Shelf Go.Proofs.YtdflgjgoikofaaaW.PrintWords Go.Proofs.YtdflgjgoikofaaaW.PrintLast Go.Proofs.YtdflgjgoikofaaaW.PrintMore
open Go.Proofs.Ytdflgjgoikofaaa.Ref Go.Proofs.Ytdflgjgoikofaaa.Pl Go.Proofs.Ytdflgjgoikofaaa.Rg

theorem C_ints_new (w : World) : Kd.C (Kd.int .i64) (w.alloc (.cells #[.int .i64 0, .int .i64 100000000] 3)) (some ⟨w.heap.size, 0, none⟩) ([0, 100000000] : List Int).length [0, 100000000] := by
  have h : (w.alloc (.cells #[.int .i64 0, .int .i64 100000000] 3)).ownsRow w.heap.size 3 1 (.slice (some ⟨w.heap.size, 0, none⟩) 2 2) 2 (nums .i64 [0, 100000000]) := World.ownsRow_lit w _ 2 (Nat.le_refl _) (by simp [maxLen]) rfl
  obtain ⟨A, c, he, _, hC⟩ := C_of_own h
  cases he
  exact hC

set_option maxHeartbeats 2000000 in
theorem edges_calls (a b : List S53) (A B : Option Addr) (ca cb : Nat) (w : World) (ha : Kd.C k53 w A a.length a) (hb : Kd.C k53 w B b.length b) (hla : a.length ≤ 100) (hlb : b.length ≤ 100) :
    Calls Try.prog 65 #[.slice A a.length ca, .slice B b.length cb] w (IntsRes (edgesP a b) w) := by
  have HA := Aside0.mk ha
  have HB := Aside0.mk hb
  have hnew := Aside0.mk (C_ints_new w)
  have hbel := Aside0.mk ((Below.refl _ w).alloc (Nat.le_refl _) (.cells #[.int .i64 0, .int .i64 100000000] 3))
  clear ha hb
  go_enter Try.func65, Try.ntmps65
  go_wp2_with fail
  go_loopg [5, 6] a.length (fun kq v5 v6 wr => ∃ (i : Nat) (E : List Int) (A' : Option Addr) (c' : Nat), v6 = .int .i64 (i : Int) ∧ v5 = .slice A' E.length c' ∧ Aside0 (i + kq = a.length) ∧ Aside0 (E = edgesF [0, 100000000] (a.take i)) ∧ Aside0 (E.length ≤ c') ∧ Aside0 (Kd.C (Kd.int .i64) wr A' E.length E) ∧ Aside0 (Below w.heap.size w wr))
  case atStart => exact ⟨0, [0, 100000000], some ⟨w.heap.size, 0, none⟩, 2, rfl, rfl, ⟨by omega⟩, ⟨by simp [edgesF]⟩, ⟨by simp⟩, hnew, hbel⟩
  case round =>
    clear hnew hbel
    obtain ⟨i, E, A', c', rfl, rfl, HK, HE, HC', HCE, HBr⟩ := hrel
    by_cases hi : i < a.length
    · have hib : decide ((i : Int) < (a.length : Int)) = true := decide_eq_true (by omega)
      have q1 := eq_true (show (i : Int) < (a.length : Int) by omega)
      have q2 := eq_true (show (0 : Int) ≤ (i : Int) by omega)
      obtain ⟨ad, rfl, c0, c1, c2⟩ := at_T53 (Kd.C_below HA.out HBr.out) (i : Int) (by omega) (by omega)
      simp only [Int.toNat_natCast, rd_T53, List.getD_eq_getElem?_getD] at c0 c1 c2
      have hstep := edgesF_take [0, 100000000] a i hi
      rw [← HE.out, List.getD_eq_getElem?_getD] at hstep
      generalize (a[i]?.getD z53) = bb at c0 c1 c2 hstep
      have HST := Aside0.mk hstep
      have hl1 : E.length ≤ 2 + 2 * i := by rw [HE.out]; have := edgesF_len (a.take i) [0, 100000000]; simp at this ⊢; omega
      have hl2 : 0 < E.length := by rw [HE.out]; exact edgesF_pos _ _ (by simp)
      have hl3 : (putP E bb.f0.f0).length ≤ 300 := by have := putP_len E bb.f0.f0; omega
      have hi100 : i ≤ 100 := by omega
      have HI := Aside0.mk hi
      have HL1 := Aside0.mk hl1
      have HL2 := Aside0.mk hl2
      have HL3 := Aside0.mk hl3
      clear hstep c2 hl1 hl2 hl3 hi
      go_wp2_with fail
      go_region_held3 (fun w' => w'.cell? (ad.add (i * 3)) = some (.int .i64 bb.f0.f0) ∧ w'.cell? ⟨(ad.add (i * 3)).block, (ad.add (i * 3)).off + 1, none⟩ = some (.int .i64 bb.f0.f1)) (go_keep)
        (first | (go_at_call 68; refine (put_calls _ _ _ _ _ (by first | exact HCE2.out | exact Kd.C_drew HCE.out | exact HCE.out) (by first | exact HC2.out | exact HC'.out) (by first | (have := HL3.out; omega) | (have := HL1.out; have := HI.out; omega)) (by first | exact putP_pos _ _ | exact HL2.out)).mono ?_; rintro e w' ⟨A2, cc2, rfl, hc2, hC2, hb2⟩; have HB2 := Aside0.mk (by first | exact below_step HB2.out hb2 | exact below_step (below_drew HBr.out) hb2 : Below w.heap.size w w'); have d0 : w'.cell? (ad.add (i * 3)) = some (.int .i64 bb.f0.f0) := (by first | exact pw_cell_below hb2 d0 | exact pw_cell_below hb2 c0); have d1 : w'.cell? ⟨(ad.add (i * 3)).block, (ad.add (i * 3)).off + 1, none⟩ = some (.int .i64 bb.f0.f1) := (by first | exact pw_cell_below hb2 d1 | exact pw_cell_below hb2 c1); have HCE2 := Aside0.mk hC2; have HC2 := Aside0.mk hc2; clear hc2 hC2 hb2))
      go_wp2_with fail
      go_roundg (a.length - (i + 1))
      case measure => have := HK.out; have := HI.out; omega
      case rel => exact ⟨i + 1, _, A2, cc2, by go_num, rfl, ⟨by have := HK.out; have := HI.out; omega⟩, ⟨HST.out.symm⟩, HC2, HCE2, HB2⟩
    · have hge : (a.length : Int) ≤ (i : Int) := by omega
      have hdn : decide (i < a.length) = false := decide_eq_false hi
      have hE : E = edgesF [0, 100000000] a := by rw [HE.out, List.take_of_length_le (by omega)]
      have HE1 := Aside0.mk hE
      clear HK HE hi hE
      go_wp2_with fail
      go_loopg [5, 7] b.length (fun kq v5 v6 wr => ∃ (i : Nat) (E : List Int) (A' : Option Addr) (c' : Nat), v6 = .int .i64 (i : Int) ∧ v5 = .slice A' E.length c' ∧ Aside0 (i + kq = b.length) ∧ Aside0 (E = edgesF (edgesF [0, 100000000] a) (b.take i)) ∧ Aside0 (E.length ≤ c') ∧ Aside0 (Kd.C (Kd.int .i64) wr A' E.length E) ∧ Aside0 (Below w.heap.size w wr))
      case atStart => exact ⟨0, E, A', c', rfl, rfl, ⟨by omega⟩, ⟨by rw [HE1.out]; simp [edgesF]⟩, HC', HCE, HBr⟩
      case round =>
        clear HE1 HC' HCE HBr hge
        obtain ⟨i, E, A', c', rfl, rfl, HK, HE, HC', HCE, HBr⟩ := hrel
        by_cases hi : i < b.length
        · have hib : decide ((i : Int) < (b.length : Int)) = true := decide_eq_true (by omega)
          have q1 := eq_true (show (i : Int) < (b.length : Int) by omega)
          have q2 := eq_true (show (0 : Int) ≤ (i : Int) by omega)
          obtain ⟨ad, rfl, c0, c1, c2⟩ := at_T53 (Kd.C_below HB.out HBr.out) (i : Int) (by omega) (by omega)
          simp only [Int.toNat_natCast, rd_T53, List.getD_eq_getElem?_getD] at c0 c1 c2
          have hstep := edgesF_take (edgesF [0, 100000000] a) b i hi
          rw [← HE.out, List.getD_eq_getElem?_getD] at hstep
          generalize (b[i]?.getD z53) = bb at c0 c1 c2 hstep
          have HST := Aside0.mk hstep
          have hl1 : E.length ≤ 2 + 200 + 2 * i := by rw [HE.out]; have h1 := edgesF_len (b.take i) (edgesF [0, 100000000] a); have h2 := edgesF_len a [0, 100000000]; simp at h1 h2 ⊢; omega
          have hl2 : 0 < E.length := by rw [HE.out]; exact edgesF_pos _ _ (edgesF_pos _ _ (by simp))
          have hl3 : (putP E bb.f0.f0).length ≤ 500 := by have := putP_len E bb.f0.f0; omega
          have hi100 : i ≤ 100 := by omega
          have HI := Aside0.mk hi
          have HL1 := Aside0.mk hl1
          have HL2 := Aside0.mk hl2
          have HL3 := Aside0.mk hl3
          clear hstep c2 hl1 hl2 hl3 hi
          go_wp2_with fail
          go_region_held3 (fun w' => w'.cell? (ad.add (i * 3)) = some (.int .i64 bb.f0.f0) ∧ w'.cell? ⟨(ad.add (i * 3)).block, (ad.add (i * 3)).off + 1, none⟩ = some (.int .i64 bb.f0.f1)) (go_keep)
            (first | (go_at_call 68; refine (put_calls _ _ _ _ _ (by first | exact HCE2.out | exact Kd.C_drew HCE.out | exact HCE.out) (by first | exact HC2.out | exact HC'.out) (by first | (have := HL3.out; omega) | (have := HL1.out; have := HI.out; omega)) (by first | exact putP_pos _ _ | exact HL2.out)).mono ?_; rintro e w' ⟨A2, cc2, rfl, hc2, hC2, hb2⟩; have HB2 := Aside0.mk (by first | exact below_step HB2.out hb2 | exact below_step (below_drew HBr.out) hb2 : Below w.heap.size w w'); have d0 : w'.cell? (ad.add (i * 3)) = some (.int .i64 bb.f0.f0) := (by first | exact pw_cell_below hb2 d0 | exact pw_cell_below hb2 c0); have d1 : w'.cell? ⟨(ad.add (i * 3)).block, (ad.add (i * 3)).off + 1, none⟩ = some (.int .i64 bb.f0.f1) := (by first | exact pw_cell_below hb2 d1 | exact pw_cell_below hb2 c1); have HCE2 := Aside0.mk hC2; have HC2 := Aside0.mk hc2; clear hc2 hC2 hb2))
          go_wp2_with fail
          go_roundg (b.length - (i + 1))
          case measure => have := HK.out; have := HI.out; omega
          case rel => exact ⟨i + 1, _, A2, cc2, by go_num, rfl, ⟨by have := HK.out; have := HI.out; omega⟩, ⟨HST.out.symm⟩, HC2, HCE2, HB2⟩
        · have hge2 : (b.length : Int) ≤ (i : Int) := by omega
          have hE : E = edgesP a b := by rw [HE.out, List.take_of_length_le (by omega)]; rfl
          have HE1 := Aside0.mk hE
          clear HK HE hi hE
          go_wp2_with fail
          go_ret
          exact ⟨A', c', by rw [← HE1.out]; rfl, by rw [← HE1.out]; exact HC'.out, by rw [← HE1.out]; exact HCE.out, HBr.out⟩
end Go.Proofs.Ytdflgjgoikofaaa.Bk

namespace Go.Proofs.Ytdflgjgoikofaaa.Bk
open Go.RowKit Go.Shelf Go.Proofs.YtdflgjgoikofaaaW.PrintWords Go.Proofs.YtdflgjgoikofaaaW.PrintLast Go.Proofs.YtdflgjgoikofaaaW.PrintMore
open Go.Proofs.Ytdflgjgoikofaaa.Ref Go.Proofs.Ytdflgjgoikofaaa.Pl Go.Proofs.Ytdflgjgoikofaaa.Rg
attribute [local go_sem high] run_min_min run_max_max

theorem holder_calls (l : List S53) (A : Option Addr) (c : Nat) (n : Int) (w : World) (hl : Kd.C k53 w A l.length l) (hc : l.length ≤ c) (h100 : l.length ≤ 100) :
    Calls Try.prog 64 #[.slice A l.length c, .int .i64 n] w fun e w' => e = .returned (.int .i64 (hold l n)) ∧ ∃ q, w' = w.drewN q :=
  (dialtoneref13_holder.calls 200 A c l n _ w hl hc (holder_f l n (by omega) 200 (by omega))).mono fun e w' h => ⟨h.1, h.2.out⟩
theorem validR_calls (l : List S53) (A : Option Addr) (c : Nat) (w : World) (hl : Kd.C k53 w A l.length l) (hc : l.length ≤ c) (h : l.length ≤ 1000) :
    Calls Try.prog 41 #[.slice A l.length c] w fun e w' => e = .returned (.bool (validP l)) ∧ Below w.heap.size w w' :=
  dialtoneref13_Valid.calls 4000 A c l _ w hl hc (Valid_f l (by omega) 4000 (by omega))

theorem add_succ (ad : Addr) (i : Nat) : ad.add (i + 1) = ⟨ad.block, ad.off + (i + 1), none⟩ := by simp [Addr.add]
theorem app_below {w1 wr w4 : World} (hB : Below w1.heap.size w1 wr) {v : Value} {m : Nat} {xs : List Value} (hown : wr.ownsRow w1.heap.size 53 3 v m xs) {q : Nat} {o : Obj} (hg : ((wr.drewN q).alloc o).grownBy w4 v.ownBlock) : Below w1.heap.size w1 w4 :=
  ((pw_below_drewN hB q).alloc hB.size o).grown hg (by have := hB.size; simp; omega) (fun k hk => own_base hown k hk)
theorem app_cell {w1 w4 : World} (hB : Below w1.heap.size w1 w4) {ad : Addr} {E : List Int} (h : ∀ j, j < E.length → w1.cell? (ad.add j) = some (.int .i64 (E.getD j 0))) (j : Nat) (hj : j < E.length) : w4.cell? (ad.add j) = some (.int .i64 (E.getD j 0)) := pw_cell_below hB (h j hj)

set_option maxHeartbeats 8000000 in
set_option maxRecDepth 100000 in
theorem refcomb_calls (a b : List S53) (A B : Option Addr) (ca cb : Nat) (way f t : Int) (w : World) (ha : Kd.C k53 w A a.length a) (hb : Kd.C k53 w B b.length b) (hca : a.length ≤ ca) (hcb : b.length ≤ cb)
    (la : a.length ≤ 100) (lb : b.length ≤ 100) (hway : way = 0 ∨ way = 1 ∨ way = 2) :
    Calls Try.prog 60 #[.slice A a.length ca, .slice B b.length cb, .int .i64 way, .int .i64 f, .int .i64 t] w (MapRes (refComb a b way f t) w) := by
  have HA := Aside0.mk ha
  have HB := Aside0.mk hb
  have HCA := Aside0.mk hca
  have HCB := Aside0.mk hcb
  have HW := Aside0.mk hway
  clear ha hb hca hcb hway
  go_enter Try.func60, Try.ntmps60
  go_wp2_with fail
  refine (edges_calls a b A B ca cb w HA.out HB.out la lb).mono ?_
  rintro e w1 ⟨Ae, ce, rfl, hce, hE, hb1⟩
  have hRC : refComb a b way f t = finR (combP (hR way f t) (cellsE a b (edgesP a b))) := rfl
  have hEl : (edgesP a b).length ≤ 500 := by
    have h1 := edgesF_len b (edgesF [0, 100000000] a)
    have h2 := edgesF_len a [0, 100000000]
    simp only [edgesP, List.length_cons, List.length_nil] at h1 h2 ⊢
    omega
  generalize edgesP a b = E at hce hE hEl hRC ⊢
  have HRC := Aside0.mk hRC
  clear hRC
  have HE := Aside0.mk (Kd.reads_of_C (d := (0 : Int)) hE)
  have HB1 := Aside0.mk hb1
  have HEL := Aside0.mk hEl
  have HLA := Aside0.mk la
  have HLB := Aside0.mk lb
  have HCE := Aside0.mk hce
  clear hce hE hb1 hEl la lb
  go_wp2_with fail
  go_loopg [13, 14] E.length (fun kq v13 v14 wr => ∃ (i m : Nat), v14 = .int .i64 (i : Int) ∧ Aside0 (i + kq = E.length) ∧ Aside0 (m = (combP (hR way f t) ((cellsE a b E).take i)).length) ∧ Aside0 (wr.ownsRow w1.heap.size 53 3 v13 m (flat (combP (hR way f t) ((cellsE a b E).take i)))) ∧ Aside0 (Below w1.heap.size w1 wr))
  case atStart => exact ⟨0, 0, rfl, ⟨by omega⟩, ⟨rfl⟩, ⟨World.ownsRow_nil _ _ _ _⟩, ⟨Below.refl _ _⟩⟩
  case round =>
    obtain ⟨i, m, rfl, HK, HM, HO, HBw⟩ := hrel
    have HBr := Aside0.mk (below_step HB1.out HBw.out)
    by_cases hi : i + 1 < E.length
    · have hib : decide ((i : Int) + 1 < (E.length : Int)) = true := decide_eq_true (by omega)
      obtain ⟨ad, rfl, hce⟩ := HE.out.2.2 (by omega)
      have e0 : wr.cell? (ad.add i) = some (.int .i64 (E.getD i 0)) := pw_cell_below HBw.out (hce i (by omega))
      have e1 : wr.cell? ⟨ad.block, ad.off + (i + 1), none⟩ = some (.int .i64 (E.getD (i + 1) 0)) := by rw [← add_succ]; exact pw_cell_below HBw.out (hce (i + 1) (by omega))
      have HEC := Aside0.mk hce
      clear hce
      have q1 := eq_true (show (i : Int) < (E.length : Int) by omega)
      have q2 := eq_true (show (0 : Int) ≤ (i : Int) by omega)
      have q3 := eq_true (show (i : Int) + 1 < (E.length : Int) by omega)
      have i500 : i ≤ 500 := by have := HEL.out; omega
      simp only [List.getD_eq_getElem?_getD] at e0 e1
      have HI := Aside0.mk hi
      clear hi
      go_wp2_with fail
      refine (holder_calls a A ca _ wr (Kd.C_below HA.out HBr.out) HCA.out HLA.out).mono ?_
      rintro e w2 ⟨rfl, q, rfl⟩
      go_wp2_with fail
      refine (holder_calls b B cb _ _ (Kd.C_below HB.out (pw_below_drewN HBr.out q)) HCB.out HLB.out).mono ?_
      rintro e w3 ⟨rfl, q', rfl⟩
      have hcell := cellsE_take a b E i HI.out
      have hsn : combP (hR way f t) ((cellsE a b E).take (i + 1)) = stepC (hR way f t) (combP (hR way f t) ((cellsE a b E).take i)) (cellAt a b E i) := by rw [hcell, combP_snoc]
      unfold stepC cellAt at hsn
      simp only [List.getD_eq_getElem?_getD] at hsn
      have HSN := Aside0.mk hsn
      clear hcell hsn
      generalize hold a (E[i]?.getD 0) = x at HSN ⊢
      generalize hold b (E[i]?.getD 0) = y at HSN ⊢
      go_simp
      go_step
      go_step
      go_step
      go_step
      go_step
      go_step
      go_step
      go_step
      go_cut [15] (fun s15 w' => s15 = .int .i64 (ref1 way x y) ∧ w' = wr.drewN (q + q'))
      case first =>
        rcases HW.out with rfl | rfl | rfl
        all_goals
          by_cases hy : 0 ≤ y
          · have hyb : decide (0 ≤ y) = true := decide_eq_true hy
            have hyc : decide (y < 0) = false := decide_eq_false (by omega)
            have HY := Aside0.mk hy
            clear hy
            go_wp2_with fail
            go_meet
            case rel => exact ⟨congrArg _ (by have h := HY.out; unfold ref1; first | (rw [if_pos (by omega)]) | (rw [if_neg (by omega)])), rfl⟩
          · have hyb : decide (0 ≤ y) = false := decide_eq_false hy
            have hyc : decide (y < 0) = true := decide_eq_true (by omega)
            have HY := Aside0.mk hy
            clear hy
            go_wp2_with fail
            go_meet
            case rel => exact ⟨congrArg _ (by have h := HY.out; unfold ref1; first | (rw [if_pos (by omega)]) | (rw [if_neg (by omega)])), rfl⟩
      case rest =>
        obtain ⟨rfl, rfl⟩ := hcut
        go_step
        go_step
        go_cut [15] (fun s15 w' => s15 = .int .i64 (ref2 way x y) ∧ w' = wr.drewN (q + q'))
        case first =>
          by_cases hw : way = 1
          · have hwb : (way == 1) = true := beq_iff_eq.mpr hw
            have HW1 := Aside0.mk hw
            clear hw
            by_cases hy : 0 ≤ y
            · have hyb : decide (0 ≤ y) = true := decide_eq_true hy
              have HY := Aside0.mk hy
              clear hy
              go_wp2_with fail
              go_meet
              case rel => exact ⟨congrArg _ (by unfold ref2; rw [if_pos ⟨HW1.out, HY.out⟩]), rfl⟩
            · have hyb : decide (0 ≤ y) = false := decide_eq_false hy
              have HY := Aside0.mk hy
              clear hy
              go_wp2_with fail
              go_meet
              case rel => exact ⟨congrArg _ (by unfold ref2; have h := HY.out; rw [if_neg (by omega)]), rfl⟩
          · have hwb : (way == 1) = false := beq_eq_false_iff_ne.mpr hw
            have HW1 := Aside0.mk hw
            clear hw
            go_wp2_with fail
            go_meet
            case rel => exact ⟨congrArg _ (by unfold ref2; rw [if_neg (fun h => HW1.out h.1)]), rfl⟩
        case rest =>
          obtain ⟨rfl, rfl⟩ := hcut
          go_step
          go_step
          go_cut [15] (fun s15 w' => s15 = .int .i64 (ref3 way f t x y) ∧ w' = wr.drewN (q + q'))
          case first =>
            have hr3 : ref3 way f t x y = if 0 ≤ ref2 way x y ∧ ref2 way x y = f then t else ref2 way x y := rfl
            by_cases hz : 0 ≤ ref2 way x y
            · have hzb : decide (0 ≤ ref2 way x y) = true := decide_eq_true hz
              by_cases hf : ref2 way x y = f
              · have hfb : (ref2 way x y == f) = true := beq_iff_eq.mpr hf
                have HR3 := Aside0.mk (hr3.trans (by rw [if_pos ⟨hz, hf⟩]))
                clear hr3 hz hf
                go_wp2_with fail
                go_meet
                case rel => exact ⟨congrArg _ HR3.out.symm, rfl⟩
              · have hfb : (ref2 way x y == f) = false := beq_eq_false_iff_ne.mpr hf
                have HR3 := Aside0.mk (hr3.trans (by rw [if_neg (fun h => hf h.2)]))
                clear hr3 hz hf
                go_wp2_with fail
                go_meet
                case rel => exact ⟨congrArg _ HR3.out.symm, rfl⟩
            · have hzb : decide (0 ≤ ref2 way x y) = false := decide_eq_false hz
              have HR3 := Aside0.mk (hr3.trans (by rw [if_neg (fun h => hz h.1)]))
              clear hr3 hz
              go_wp2_with fail
              go_meet
              case rel => exact ⟨congrArg _ HR3.out.symm, rfl⟩
          case rest =>
            obtain ⟨rfl, rfl⟩ := hcut
            have hHR : hR way f t x y = if ref3 way f t x y < 0 then -1 else ref3 way f t x y := rfl
            rw [hHR] at HSN
            clear hHR
            generalize ref3 way f t x y = kk at HSN ⊢
            by_cases hk : kk < 0
            · have hkb : decide (kk < 0) = true := decide_eq_true hk
              have HSN2 := Aside0.mk (HSN.out.trans (by rw [if_pos hk, if_pos rfl]))
              clear hk HSN
              go_wp2_with fail
              go_roundg (E.length - (i + 1))
              case measure => have := HK.out; have := HI.out; omega
              case rel => exact ⟨i + 1, m, by go_num, ⟨by have := HK.out; have := HI.out; omega⟩, ⟨by rw [HSN2.out]; exact HM.out⟩, ⟨by rw [HSN2.out]; exact HO.out⟩, ⟨pw_below_drewN HBw.out _⟩⟩
            · have hkb : decide (kk < 0) = false := decide_eq_false hk
              have HSN2 := Aside0.mk (HSN.out.trans (by rw [if_neg hk, if_neg (by omega)]))
              clear hk HSN
              obtain ⟨Av, cv, rfl⟩ := own_slice HO.out
              obtain ⟨i0, hi0, hz0, hz1, hz2⟩ := info_parts info53
              have hm5 : m ≤ 500 := by have h1 := combP_len (hR way f t) ((cellsE a b E).take i); have h2 := HM.out; have h3 := HEL.out; have h4 := HI.out; simp at h1; omega
              generalize hOUT : combP (hR way f t) ((cellsE a b E).take i) = OUT at HO HM HSN2
              have HOUT := Aside0.mk hOUT
              clear hOUT
              cases m with
              | zero =>
                have hd1 : decide ((0 : Int) < 0) = false := rfl
                have ho0 : OUT = [] := List.eq_nil_of_length_eq_zero HM.out.symm
                have hE1 : combP (hR way f t) ((cellsE a b E).take (i + 1)) = OUT ++ [⟨⟨E[i]?.getD 0, E[i + 1]?.getD 0⟩, kk⟩] := by rw [HSN2.out, ho0]; rfl
                have E1 := Aside0.mk hE1
                clear hE1 ho0
                go_wp2_with fail
                go_quiet (fail)
                go_wp2_with fail
                have hwr : IntKind.i64.wrap ((i : Int) + 1) = (i : Int) + 1 := IntWalk.i64_in _ (by omega)
                have htn : ((i : Int) + 1).toNat = i + 1 := by omega
                have q6 := eq_true (show (0 : Int) ≤ (i : Int) + 1 by omega)
                go_region_held3 (fun w' => w'.cell? (ad.add i) = some (.int .i64 (E[i]?.getD 0)) ∧ w'.cell? ⟨ad.block, ad.off + (i + 1), none⟩ = some (.int .i64 (E[i + 1]?.getD 0))) (go_keep)
                  ((refine step_append_lies _ (by rfl) _ _ _ (by rfl) w1.heap.size 53 i0 _ 3 24 Try.underlying24 hi0 hz0 hz1 hz2 rfl (by omega) _ 0 (flat OUT) (by rfl) (by exact World.ownsRow.alloc (w := wr.drewN _) HO.out _) ⟨wr.heap.size, 0, none⟩ 1 1 (cells3 ⟨⟨E[i]?.getD 0, E[i + 1]?.getD 0⟩, kk⟩) (by rfl) (by rfl) (by exact cells_new3 (wr.drewN _) ⟨⟨E[i]?.getD 0, E[i + 1]?.getD 0⟩, kk⟩) (by simp [cells3, Value.oneCell']) (by omega) (by unfold maxLen; omega) (by omega) (by have := HBw.out.size; simp; omega) (wr.heap.size + 1) (by simp) ?_; intro gg cap w4 hown1 hgrow hat hlt; have HW4 := Aside0.mk (app_below HBw.out HO.out hgrow); have d0 := app_cell HW4.out HEC.out i (by have := HI.out; omega); have d1 := app_cell HW4.out HEC.out (i + 1) HI.out; rw [add_succ] at d1; simp only [List.getD_eq_getElem?_getD] at d0 d1; have HO1 := Aside0.mk hown1; clear hown1 hgrow hat hlt))
                clear hwr htn q6
                go_wp2_with fail
                go_roundg (E.length - (i + 1))
                case measure => have := HK.out; have := HI.out; omega
                case rel => exact ⟨i + 1, 0 + 1, by go_num, ⟨by have := HK.out; have := HI.out; omega⟩, ⟨by rw [E1.out, List.length_append, ← HM.out]; rfl⟩, ⟨by rw [E1.out, flat_snoc]; exact HO1.out⟩, HW4⟩
              | succ m =>
                obtain ⟨g2, c2, hvv⟩ := ownsRow_succ HO.out
                cases hvv
                have hlast := flat_last OUT (by have := HM.out; omega)
                rw [show OUT.length - 1 = m by have := HM.out; omega] at hlast
                have c0 := (HO.out.cellAt (m * 3) (by omega)).trans hlast.1
                have c1 := (HO.out.cellAt (m * 3 + 1) (by omega)).trans hlast.2.1
                have c2' := (HO.out.cellAt (m * 3 + 2) (by omega)).trans hlast.2.2
                have f1 := HO.out.frozenAt (m * 3 + 1)
                have hd1 : decide ((0 : Int) < (m : Int) + 1) = true := decide_eq_true (by omega)
                have hmx : max (m : Int) 0 = (m : Int) := by omega
                have q4 := eq_true (show (m : Int) < (m : Int) + 1 by omega)
                have q5 := eq_true (show (0 : Int) ≤ (m : Int) by omega)
                have ho : decide (0 < OUT.length) = true := decide_eq_true (by have := HM.out; omega)
                clear hlast
                by_cases hT : bT (lastB OUT) = E[i]?.getD 0
                · have hTb : (bT (lastB OUT) == E[i]?.getD 0) = true := beq_iff_eq.mpr hT
                  clear hT
                  by_cases hC : bC (lastB OUT) = kk
                  · have hCb : (bC (lastB OUT) == kk) = true := beq_iff_eq.mpr hC
                    have hE1 : combP (hR way f t) ((cellsE a b E).take (i + 1)) = OUT.set (OUT.length - 1) ⟨⟨bF (lastB OUT), E[i + 1]?.getD 0⟩, bC (lastB OUT)⟩ := by
                      rw [HSN2.out, if_pos (by simp only [joins, ho, hTb, hCb, Bool.and_self])]
                    have E1 := Aside0.mk hE1
                    clear hC ho hE1
                    go_wp2_with fail
                    go_quiet (fail)
                    go_wp2_with fail
                    have hst := (World.ownsRow.stored (w := wr.drewN (q + q' + nq)) HO.out (m * 3 + 1) (.int .i64 (E[i + 1]?.getD 0)))
                    have HST := Aside0.mk hst.1
                    have HBS := Aside0.mk ((pw_below_drewN HBw.out (q + q' + nq)).setCell (p := ⟨g2, m * 3 + 1, none⟩) (own_base HO.out g2 rfl) (.int .i64 (E[i + 1]?.getD 0)))
                    clear hst
                    go_roundg (E.length - (i + 1))
                    case measure => have := HK.out; have := HI.out; omega
                    case rel => exact ⟨i + 1, m + 1, by go_num, ⟨by have := HK.out; have := HI.out; omega⟩, ⟨by rw [E1.out, List.length_set]; exact HM.out⟩, ⟨by rw [E1.out, flat_set_last _ _ (by have := HM.out; omega), show OUT.length - 1 = m by have := HM.out; omega]; exact HST.out⟩, HBS⟩
                  · have hCb : (bC (lastB OUT) == kk) = false := beq_eq_false_iff_ne.mpr hC
                    have hE1 : combP (hR way f t) ((cellsE a b E).take (i + 1)) = OUT ++ [⟨⟨E[i]?.getD 0, E[i + 1]?.getD 0⟩, kk⟩] := by
                      rw [HSN2.out, if_neg (by simp only [joins, hCb, Bool.and_false]; decide)]
                    have E1 := Aside0.mk hE1
                    clear hC ho hE1
                    go_wp2_with fail
                    go_quiet (fail)
                    go_wp2_with fail
                    have hwr : IntKind.i64.wrap ((i : Int) + 1) = (i : Int) + 1 := IntWalk.i64_in _ (by omega)
                    have htn : ((i : Int) + 1).toNat = i + 1 := by omega
                    have q6 := eq_true (show (0 : Int) ≤ (i : Int) + 1 by omega)
                    go_region_held3 (fun w' => w'.cell? (ad.add i) = some (.int .i64 (E[i]?.getD 0)) ∧ w'.cell? ⟨ad.block, ad.off + (i + 1), none⟩ = some (.int .i64 (E[i + 1]?.getD 0))) (go_keep)
                      ((refine step_append_lies _ (by rfl) _ _ _ (by rfl) w1.heap.size 53 i0 _ 3 24 Try.underlying24 hi0 hz0 hz1 hz2 rfl (by omega) _ (m + 1) (flat OUT) (by rfl) (by exact World.ownsRow.alloc (w := wr.drewN _) HO.out _) ⟨wr.heap.size, 0, none⟩ 1 1 (cells3 ⟨⟨E[i]?.getD 0, E[i + 1]?.getD 0⟩, kk⟩) (by rfl) (by rfl) (by exact cells_new3 (wr.drewN _) ⟨⟨E[i]?.getD 0, E[i + 1]?.getD 0⟩, kk⟩) (by simp [cells3, Value.oneCell']) (by omega) (by unfold maxLen; omega) (by omega) (by have := HBw.out.size; simp; omega) (wr.heap.size + 1) (by simp) ?_; intro gg cap w4 hown1 hgrow hat hlt; have HW4 := Aside0.mk (app_below HBw.out HO.out hgrow); have d0 := app_cell HW4.out HEC.out i (by have := HI.out; omega); have d1 := app_cell HW4.out HEC.out (i + 1) HI.out; rw [add_succ] at d1; simp only [List.getD_eq_getElem?_getD] at d0 d1; have HO1 := Aside0.mk hown1; clear hown1 hgrow hat hlt))
                    clear hwr htn q6
                    go_wp2_with fail
                    go_roundg (E.length - (i + 1))
                    case measure => have := HK.out; have := HI.out; omega
                    case rel => exact ⟨i + 1, (m + 1) + 1, by go_num, ⟨by have := HK.out; have := HI.out; omega⟩, ⟨by rw [E1.out, List.length_append, ← HM.out]; rfl⟩, ⟨by rw [E1.out, flat_snoc]; exact HO1.out⟩, HW4⟩
                · have hTb : (bT (lastB OUT) == E[i]?.getD 0) = false := beq_eq_false_iff_ne.mpr hT
                  have hE1 : combP (hR way f t) ((cellsE a b E).take (i + 1)) = OUT ++ [⟨⟨E[i]?.getD 0, E[i + 1]?.getD 0⟩, kk⟩] := by
                    rw [HSN2.out, if_neg (by simp only [joins, hTb, Bool.and_false, Bool.false_and]; decide)]
                  have E1 := Aside0.mk hE1
                  clear hT ho hE1
                  go_wp2_with fail
                  go_quiet (fail)
                  go_wp2_with fail
                  have hwr : IntKind.i64.wrap ((i : Int) + 1) = (i : Int) + 1 := IntWalk.i64_in _ (by omega)
                  have htn : ((i : Int) + 1).toNat = i + 1 := by omega
                  have q6 := eq_true (show (0 : Int) ≤ (i : Int) + 1 by omega)
                  go_region_held3 (fun w' => w'.cell? (ad.add i) = some (.int .i64 (E[i]?.getD 0)) ∧ w'.cell? ⟨ad.block, ad.off + (i + 1), none⟩ = some (.int .i64 (E[i + 1]?.getD 0))) (go_keep)
                    ((refine step_append_lies _ (by rfl) _ _ _ (by rfl) w1.heap.size 53 i0 _ 3 24 Try.underlying24 hi0 hz0 hz1 hz2 rfl (by omega) _ (m + 1) (flat OUT) (by rfl) (by exact World.ownsRow.alloc (w := wr.drewN _) HO.out _) ⟨wr.heap.size, 0, none⟩ 1 1 (cells3 ⟨⟨E[i]?.getD 0, E[i + 1]?.getD 0⟩, kk⟩) (by rfl) (by rfl) (by exact cells_new3 (wr.drewN _) ⟨⟨E[i]?.getD 0, E[i + 1]?.getD 0⟩, kk⟩) (by simp [cells3, Value.oneCell']) (by omega) (by unfold maxLen; omega) (by omega) (by have := HBw.out.size; simp; omega) (wr.heap.size + 1) (by simp) ?_; intro gg cap w4 hown1 hgrow hat hlt; have HW4 := Aside0.mk (app_below HBw.out HO.out hgrow); have d0 := app_cell HW4.out HEC.out i (by have := HI.out; omega); have d1 := app_cell HW4.out HEC.out (i + 1) HI.out; rw [add_succ] at d1; simp only [List.getD_eq_getElem?_getD] at d0 d1; have HO1 := Aside0.mk hown1; clear hown1 hgrow hat hlt))
                  clear hwr htn q6
                  go_wp2_with fail
                  go_roundg (E.length - (i + 1))
                  case measure => have := HK.out; have := HI.out; omega
                  case rel => exact ⟨i + 1, (m + 1) + 1, by go_num, ⟨by have := HK.out; have := HI.out; omega⟩, ⟨by rw [E1.out, List.length_append, ← HM.out]; rfl⟩, ⟨by rw [E1.out, flat_snoc]; exact HO1.out⟩, HW4⟩
    · have hib : decide ((i : Int) + 1 < (E.length : Int)) = false := decide_eq_false (by omega)
      have hfin : (cellsE a b E).take i = cellsE a b E := List.take_of_length_le (by rw [cellsE_len]; omega)
      have i500 : i ≤ 500 := by have := HEL.out; have := HK.out; omega
      rw [hfin] at HM HO
      have hm5 : m ≤ 1000 := by have h1 := combP_len (hR way f t) (cellsE a b E); have h2 := HM.out; rw [cellsE_len] at h1; have h3 := HEL.out; omega
      generalize combP (hR way f t) (cellsE a b E) = OUT at HO HM HRC ⊢
      have hml := HM.out
      have HMM := Aside0.mk hm5
      subst hml
      have hown := HO.out
      have hRO := R_of_flat (own_weaken hown HB1.out.size)
      obtain ⟨Av, cv, rfl, hcv, hCv⟩ := Kd.R_reads hRO
      have HRO := Aside0.mk hRO
      have HCV := Aside0.mk hCv
      have HCVC := Aside0.mk hcv
      clear hi hfin hown hRO hcv hCv hm5
      go_wp2_with fail
      refine (validR_calls OUT Av cv wr HCV.out HCVC.out HMM.out).mono ?_
      rintro e w4 ⟨rfl, h4⟩
      have HR4 := Aside0.mk (Kd.R_below HRO.out h4)
      have HB4 := Aside0.mk (below_step HBr.out h4)
      clear h4
      cases hv : validP OUT with
      | true =>
        have HV := Aside0.mk hv
        clear hv
        go_wp2_with fail
        go_ret2
        exact ⟨_, by rw [HRC.out]; unfold finR; rw [if_pos HV.out]; rfl, by rw [HRC.out]; unfold finR; rw [if_pos HV.out]; exact HR4.out, HB4.out⟩
      | false =>
        have HV := Aside0.mk hv
        clear hv
        go_wp2_with fail
        go_ret2
        exact ⟨_, by rw [HRC.out]; unfold finR; rw [if_neg (by rw [HV.out]; decide)]; rfl, by rw [HRC.out]; unfold finR; rw [if_neg (by rw [HV.out]; decide)]; exact Kd.R_nil _ _ _ _ _, HB4.out⟩
end Go.Proofs.Ytdflgjgoikofaaa.Bk

namespace Go.Proofs.Ytdflgjgoikofaaa.Bk
open Go.RowKit Go.Shelf Go.Proofs.YtdflgjgoikofaaaW.PrintWords Go.Proofs.YtdflgjgoikofaaaW.PrintLast Go.Proofs.YtdflgjgoikofaaaW.PrintMore
open Go.Proofs.Ytdflgjgoikofaaa.Ref Go.Proofs.Ytdflgjgoikofaaa.Pl Go.Proofs.Ytdflgjgoikofaaa.Rg

theorem RangeR_calls (f t : Int) (w : World) : Calls Try.prog 58 #[.agg #[.int .i64 f, .int .i64 t]] w fun e w' => e = .returned (.bool (rangeB f t)) ∧ Below w.heap.size w w' :=
  dialtoneref13_Range.calls f t (rangeB f t) w (Range_f f t)
theorem carrierR_calls (c : Int) (w : World) : Calls Try.prog 59 #[.int .i64 c] w fun e w' => e = .returned (.bool (carrB c)) ∧ Drawn0 w w' :=
  dialtoneref13_carrier.calls c (carrB c) w (carrier_f c)
theorem oneR_calls (f t k : Int) (w : World) : Calls Try.prog 61 #[.agg #[.int .i64 f, .int .i64 t], .int .i64 k] w fun e w' => ∃ A c, e = .returned (.slice A 1 c) ∧ 1 ≤ c ∧ Kd.C k53 w' A 1 [⟨⟨f, t⟩, k⟩] ∧ Below w.heap.size w w' := by
  refine (dialtoneref13_one.calls f t k [⟨⟨f, t⟩, k⟩] w rfl).mono ?_
  rintro e w' ⟨v, rfl, hR, hB⟩
  obtain ⟨A, c, rfl, hc, hC⟩ := Kd.R_reads hR
  exact ⟨A, c, rfl, hc, hC, hB⟩
set_option maxHeartbeats 2000000 in
theorem giveR_calls (l : List S53) (A : Option Addr) (c : Nat) (f t k : Int) (w : World) (hl : Kd.C k53 w A l.length l) (hc : l.length ≤ c) (h100 : l.length ≤ 100) :
    Calls Try.prog 36 #[.slice A l.length c, .agg #[.int .i64 f, .int .i64 t], .int .i64 k] w (MapRes (giveR l f t k) w) := by
  have hX := blk_new w (.cells #[.int .i64 f, .int .i64 t] 26)
  have hXB := (Below.refl _ w).alloc (Nat.le_refl _) (.cells #[.int .i64 f, .int .i64 t] 26)
  have HL := Aside0.mk hl
  have HC := Aside0.mk hc
  have H100 := Aside0.mk h100
  have HX := Aside0.mk hX
  have HXB := Aside0.mk hXB
  clear hl hc hX hXB h100
  cases hv : validP l with
  | false =>
    have e1 : giveR l f t k = errR := by simp only [giveR, hv, Bool.false_and]; rfl
    rw [e1]
    clear e1
    go_enter Try.func36, Try.ntmps36
    go_wp2_with fail
    refine (validR_calls l A c _ (Kd.C_below HL.out HXB.out) HC.out (by have := H100.out; omega)).mono ?_
    rintro e w1 ⟨rfl, hb⟩
    have HB := Aside0.mk (below_step HXB.out hb)
    clear hb
    rw [hv]
    clear hv
    go_wp2_with fail
    go_ret2
    exact ⟨_, rfl, Kd.R_nil _ _ _ _ _, HB.out⟩
  | true =>
    have hlen := validP_len hv
    cases hr : rangeB f t with
    | false =>
      have e1 : giveR l f t k = errR := by simp only [giveR, hr, Bool.false_and, Bool.and_false]; rfl
      rw [e1]
      clear e1
      go_enter Try.func36, Try.ntmps36
      go_wp2_with fail
      refine (validR_calls l A c _ (Kd.C_below HL.out HXB.out) HC.out (by have := H100.out; omega)).mono ?_
      rintro e w1 ⟨rfl, hb⟩
      have HB := Aside0.mk (below_step HXB.out hb)
      have HX1 := Aside0.mk (blk_below HX.out hb)
      have k0 : w1.cell? ⟨w.heap.size, 0, none⟩ = some (.int .i64 f) := (blk_cell HX1.out 0).trans rfl
      have k1 : w1.cell? ⟨w.heap.size, 1, none⟩ = some (.int .i64 t) := (blk_cell HX1.out 1).trans rfl
      clear hb
      rw [hv]
      clear hv hlen
      go_wp2_with fail
      refine (RangeR_calls f t w1).mono ?_
      rintro e w2 ⟨rfl, hb⟩
      have HB2 := Aside0.mk (below_step HB.out hb)
      clear hb k0 k1
      rw [hr]
      clear hr
      go_wp2_with fail
      go_ret2
      exact ⟨_, rfl, Kd.R_nil _ _ _ _ _, HB2.out⟩
    | true =>
     cases hk : carrB k with
     | false =>
      have e1 : giveR l f t k = errR := by simp only [giveR, hk, Bool.and_false]; rfl
      rw [e1]
      clear e1
      go_enter Try.func36, Try.ntmps36
      go_wp2_with fail
      refine (validR_calls l A c _ (Kd.C_below HL.out HXB.out) HC.out (by have := H100.out; omega)).mono ?_
      rintro e w1 ⟨rfl, hb⟩
      have HB := Aside0.mk (below_step HXB.out hb)
      have HX1 := Aside0.mk (blk_below HX.out hb)
      have k0 : w1.cell? ⟨w.heap.size, 0, none⟩ = some (.int .i64 f) := (blk_cell HX1.out 0).trans rfl
      have k1 : w1.cell? ⟨w.heap.size, 1, none⟩ = some (.int .i64 t) := (blk_cell HX1.out 1).trans rfl
      clear hb
      rw [hv]
      go_wp2_with fail
      refine (RangeR_calls f t w1).mono ?_
      rintro e w2 ⟨rfl, hb⟩
      have HB2 := Aside0.mk (below_step HB.out hb)
      have HX2 := Aside0.mk (blk_below HX1.out hb)
      clear hb k0 k1
      have k0 : w2.cell? ⟨w.heap.size, 0, none⟩ = some (.int .i64 f) := (blk_cell HX2.out 0).trans rfl
      have k1 : w2.cell? ⟨w.heap.size, 1, none⟩ = some (.int .i64 t) := (blk_cell HX2.out 1).trans rfl
      rw [hr]
      clear hv hr hlen
      go_wp2_with fail
      refine (carrierR_calls k w2).mono ?_
      rintro e w3 ⟨rfl, ⟨q, rfl⟩⟩
      rw [hk]
      clear hk
      go_wp2_with fail
      go_ret2
      exact ⟨_, rfl, Kd.R_nil _ _ _ _ _, HB2.out.trans (pw_below_drewN (Below.refl _ _) q)⟩
     | true =>
      have e1 : giveR l f t k = refComb l [⟨⟨f, t⟩, k⟩] 0 (-1) (-1) := by simp only [giveR, hv, hr, hk, Bool.and_self, if_true]
      rw [e1]
      clear e1
      go_enter Try.func36, Try.ntmps36
      go_wp2_with fail
      refine (validR_calls l A c _ (Kd.C_below HL.out HXB.out) HC.out (by have := H100.out; omega)).mono ?_
      rintro e w1 ⟨rfl, hb⟩
      have HB := Aside0.mk (below_step HXB.out hb)
      have HX1 := Aside0.mk (blk_below HX.out hb)
      have k0 : w1.cell? ⟨w.heap.size, 0, none⟩ = some (.int .i64 f) := (blk_cell HX1.out 0).trans rfl
      have k1 : w1.cell? ⟨w.heap.size, 1, none⟩ = some (.int .i64 t) := (blk_cell HX1.out 1).trans rfl
      clear hb
      rw [hv]
      go_wp2_with fail
      refine (RangeR_calls f t w1).mono ?_
      rintro e w2 ⟨rfl, hb⟩
      have HB2 := Aside0.mk (below_step HB.out hb)
      have HX2 := Aside0.mk (blk_below HX1.out hb)
      clear hb k0 k1
      have k0 : w2.cell? ⟨w.heap.size, 0, none⟩ = some (.int .i64 f) := (blk_cell HX2.out 0).trans rfl
      have k1 : w2.cell? ⟨w.heap.size, 1, none⟩ = some (.int .i64 t) := (blk_cell HX2.out 1).trans rfl
      rw [hr]
      have HLEN := Aside0.mk hlen
      clear hv hr hlen
      go_wp2_with fail
      refine (carrierR_calls k w2).mono ?_
      rintro e w3 ⟨rfl, ⟨q, rfl⟩⟩
      have HB3 := Aside0.mk (pw_below_drewN HB2.out q)
      rw [hk]
      clear hk
      go_wp2_with fail
      refine (oneR_calls f t k _).mono ?_
      rintro e w4 ⟨Ao, co, rfl, hco, hCo, hb⟩
      have HB4 := Aside0.mk (below_step HB3.out hb)
      have HCo := Aside0.mk hCo
      have HCO := Aside0.mk hco
      clear hb hCo hco k0 k1
      go_wp2_with fail
      refine (refcomb_calls l [⟨⟨f, t⟩, k⟩] A Ao c co 0 (-1) (-1) w4 (Kd.C_below HL.out HB4.out) HCo.out HC.out HCO.out H100.out (by simp) (by omega)).mono ?_
      intro e w5 h5
      obtain ⟨v, rfl, hR, hb5⟩ := h5.later HB4.out
      have HR := Aside0.mk hR
      have HB5 := Aside0.mk hb5
      clear h5 hR hb5
      go_wp2_with fail
      go_ret2
      exact ⟨v, rfl, HR.out, HB5.out⟩

set_option maxHeartbeats 2000000 in
theorem takeR_calls (l : List S53) (A : Option Addr) (c : Nat) (f t : Int) (w : World) (hl : Kd.C k53 w A l.length l) (hc : l.length ≤ c) (h100 : l.length ≤ 100) :
    Calls Try.prog 37 #[.slice A l.length c, .agg #[.int .i64 f, .int .i64 t]] w (MapRes (takeR l f t) w) := by
  have hX := blk_new w (.cells #[.int .i64 f, .int .i64 t] 26)
  have hXB := (Below.refl _ w).alloc (Nat.le_refl _) (.cells #[.int .i64 f, .int .i64 t] 26)
  have HL := Aside0.mk hl
  have HC := Aside0.mk hc
  have H100 := Aside0.mk h100
  have HX := Aside0.mk hX
  have HXB := Aside0.mk hXB
  clear hl hc hX hXB h100
  cases hv : validP l with
  | false =>
    have e1 : takeR l f t = errR := by simp only [takeR, hv, Bool.false_and]; rfl
    rw [e1]
    clear e1
    go_enter Try.func37, Try.ntmps37
    go_wp2_with fail
    refine (validR_calls l A c _ (Kd.C_below HL.out HXB.out) HC.out (by have := H100.out; omega)).mono ?_
    rintro e w1 ⟨rfl, hb⟩
    have HB := Aside0.mk (below_step HXB.out hb)
    clear hb
    rw [hv]
    clear hv
    go_wp2_with fail
    go_ret2
    exact ⟨_, rfl, Kd.R_nil _ _ _ _ _, HB.out⟩
  | true =>
    have hlen := validP_len hv
    cases hr : rangeB f t with
    | false =>
      have e1 : takeR l f t = errR := by simp only [takeR, hr, Bool.false_and, Bool.and_false]; rfl
      rw [e1]
      clear e1
      go_enter Try.func37, Try.ntmps37
      go_wp2_with fail
      refine (validR_calls l A c _ (Kd.C_below HL.out HXB.out) HC.out (by have := H100.out; omega)).mono ?_
      rintro e w1 ⟨rfl, hb⟩
      have HB := Aside0.mk (below_step HXB.out hb)
      have HX1 := Aside0.mk (blk_below HX.out hb)
      have k0 : w1.cell? ⟨w.heap.size, 0, none⟩ = some (.int .i64 f) := (blk_cell HX1.out 0).trans rfl
      have k1 : w1.cell? ⟨w.heap.size, 1, none⟩ = some (.int .i64 t) := (blk_cell HX1.out 1).trans rfl
      clear hb
      rw [hv]
      clear hv hlen
      go_wp2_with fail
      refine (RangeR_calls f t w1).mono ?_
      rintro e w2 ⟨rfl, hb⟩
      have HB2 := Aside0.mk (below_step HB.out hb)
      clear hb k0 k1
      rw [hr]
      clear hr
      go_wp2_with fail
      go_ret2
      exact ⟨_, rfl, Kd.R_nil _ _ _ _ _, HB2.out⟩
    | true =>
      have e1 : takeR l f t = refComb l [⟨⟨f, t⟩, 0⟩] 1 (-1) (-1) := by simp only [takeR, hv, hr, Bool.and_self, if_true]
      rw [e1]
      clear e1
      go_enter Try.func37, Try.ntmps37
      go_wp2_with fail
      refine (validR_calls l A c _ (Kd.C_below HL.out HXB.out) HC.out (by have := H100.out; omega)).mono ?_
      rintro e w1 ⟨rfl, hb⟩
      have HB := Aside0.mk (below_step HXB.out hb)
      have HX1 := Aside0.mk (blk_below HX.out hb)
      have k0 : w1.cell? ⟨w.heap.size, 0, none⟩ = some (.int .i64 f) := (blk_cell HX1.out 0).trans rfl
      have k1 : w1.cell? ⟨w.heap.size, 1, none⟩ = some (.int .i64 t) := (blk_cell HX1.out 1).trans rfl
      clear hb
      rw [hv]
      go_wp2_with fail
      refine (RangeR_calls f t w1).mono ?_
      rintro e w2 ⟨rfl, hb⟩
      have HB2 := Aside0.mk (below_step HB.out hb)
      have HX2 := Aside0.mk (blk_below HX1.out hb)
      clear hb k0 k1
      have k0 : w2.cell? ⟨w.heap.size, 0, none⟩ = some (.int .i64 f) := (blk_cell HX2.out 0).trans rfl
      have k1 : w2.cell? ⟨w.heap.size, 1, none⟩ = some (.int .i64 t) := (blk_cell HX2.out 1).trans rfl
      rw [hr]
      have HLEN := Aside0.mk hlen
      clear hv hr hlen
      go_wp2_with fail
      refine (oneR_calls f t 0 w2).mono ?_
      rintro e w4 ⟨Ao, co, rfl, hco, hCo, hb⟩
      have HB4 := Aside0.mk (below_step HB2.out hb)
      have HCo := Aside0.mk hCo
      have HCO := Aside0.mk hco
      clear hb hCo hco k0 k1
      go_wp2_with fail
      refine (refcomb_calls l [⟨⟨f, t⟩, 0⟩] A Ao c co 1 (-1) (-1) w4 (Kd.C_below HL.out HB4.out) HCo.out HC.out HCO.out H100.out (by simp) (by omega)).mono ?_
      intro e w5 h5
      obtain ⟨v, rfl, hR, hb5⟩ := h5.later HB4.out
      have HR := Aside0.mk hR
      have HB5 := Aside0.mk hb5
      clear h5 hR hb5
      go_wp2_with fail
      go_ret2
      exact ⟨v, rfl, HR.out, HB5.out⟩

set_option maxHeartbeats 2000000 in
theorem onlyR_calls (l : List S53) (A : Option Addr) (c : Nat) (f t : Int) (w : World) (hl : Kd.C k53 w A l.length l) (hc : l.length ≤ c) (h100 : l.length ≤ 100) :
    Calls Try.prog 40 #[.slice A l.length c, .agg #[.int .i64 f, .int .i64 t]] w (MapRes (onlyRR l f t) w) := by
  have hX := blk_new w (.cells #[.int .i64 f, .int .i64 t] 26)
  have hXB := (Below.refl _ w).alloc (Nat.le_refl _) (.cells #[.int .i64 f, .int .i64 t] 26)
  have HL := Aside0.mk hl
  have HC := Aside0.mk hc
  have H100 := Aside0.mk h100
  have HX := Aside0.mk hX
  have HXB := Aside0.mk hXB
  clear hl hc hX hXB h100
  cases hv : validP l with
  | false =>
    have e1 : onlyRR l f t = errR := by simp only [onlyRR, hv, Bool.false_and]; rfl
    rw [e1]
    clear e1
    go_enter Try.func40, Try.ntmps40
    go_wp2_with fail
    refine (validR_calls l A c _ (Kd.C_below HL.out HXB.out) HC.out (by have := H100.out; omega)).mono ?_
    rintro e w1 ⟨rfl, hb⟩
    have HB := Aside0.mk (below_step HXB.out hb)
    clear hb
    rw [hv]
    clear hv
    go_wp2_with fail
    go_ret2
    exact ⟨_, rfl, Kd.R_nil _ _ _ _ _, HB.out⟩
  | true =>
    have hlen := validP_len hv
    cases hr : rangeB f t with
    | false =>
      have e1 : onlyRR l f t = errR := by simp only [onlyRR, hr, Bool.false_and, Bool.and_false]; rfl
      rw [e1]
      clear e1
      go_enter Try.func40, Try.ntmps40
      go_wp2_with fail
      refine (validR_calls l A c _ (Kd.C_below HL.out HXB.out) HC.out (by have := H100.out; omega)).mono ?_
      rintro e w1 ⟨rfl, hb⟩
      have HB := Aside0.mk (below_step HXB.out hb)
      have HX1 := Aside0.mk (blk_below HX.out hb)
      have k0 : w1.cell? ⟨w.heap.size, 0, none⟩ = some (.int .i64 f) := (blk_cell HX1.out 0).trans rfl
      have k1 : w1.cell? ⟨w.heap.size, 1, none⟩ = some (.int .i64 t) := (blk_cell HX1.out 1).trans rfl
      clear hb
      rw [hv]
      clear hv hlen
      go_wp2_with fail
      refine (RangeR_calls f t w1).mono ?_
      rintro e w2 ⟨rfl, hb⟩
      have HB2 := Aside0.mk (below_step HB.out hb)
      clear hb k0 k1
      rw [hr]
      clear hr
      go_wp2_with fail
      go_ret2
      exact ⟨_, rfl, Kd.R_nil _ _ _ _ _, HB2.out⟩
    | true =>
      have e1 : onlyRR l f t = refComb l [⟨⟨f, t⟩, 0⟩] 2 (-1) (-1) := by simp only [onlyRR, hv, hr, Bool.and_self, if_true]
      rw [e1]
      clear e1
      go_enter Try.func40, Try.ntmps40
      go_wp2_with fail
      refine (validR_calls l A c _ (Kd.C_below HL.out HXB.out) HC.out (by have := H100.out; omega)).mono ?_
      rintro e w1 ⟨rfl, hb⟩
      have HB := Aside0.mk (below_step HXB.out hb)
      have HX1 := Aside0.mk (blk_below HX.out hb)
      have k0 : w1.cell? ⟨w.heap.size, 0, none⟩ = some (.int .i64 f) := (blk_cell HX1.out 0).trans rfl
      have k1 : w1.cell? ⟨w.heap.size, 1, none⟩ = some (.int .i64 t) := (blk_cell HX1.out 1).trans rfl
      clear hb
      rw [hv]
      go_wp2_with fail
      refine (RangeR_calls f t w1).mono ?_
      rintro e w2 ⟨rfl, hb⟩
      have HB2 := Aside0.mk (below_step HB.out hb)
      have HX2 := Aside0.mk (blk_below HX1.out hb)
      clear hb k0 k1
      have k0 : w2.cell? ⟨w.heap.size, 0, none⟩ = some (.int .i64 f) := (blk_cell HX2.out 0).trans rfl
      have k1 : w2.cell? ⟨w.heap.size, 1, none⟩ = some (.int .i64 t) := (blk_cell HX2.out 1).trans rfl
      rw [hr]
      have HLEN := Aside0.mk hlen
      clear hv hr hlen
      go_wp2_with fail
      refine (oneR_calls f t 0 w2).mono ?_
      rintro e w4 ⟨Ao, co, rfl, hco, hCo, hb⟩
      have HB4 := Aside0.mk (below_step HB2.out hb)
      have HCo := Aside0.mk hCo
      have HCO := Aside0.mk hco
      clear hb hCo hco k0 k1
      go_wp2_with fail
      refine (refcomb_calls l [⟨⟨f, t⟩, 0⟩] A Ao c co 2 (-1) (-1) w4 (Kd.C_below HL.out HB4.out) HCo.out HC.out HCO.out H100.out (by simp) (by omega)).mono ?_
      intro e w5 h5
      obtain ⟨v, rfl, hR, hb5⟩ := h5.later HB4.out
      have HR := Aside0.mk hR
      have HB5 := Aside0.mk hb5
      clear h5 hR hb5
      go_wp2_with fail
      go_ret2
      exact ⟨v, rfl, HR.out, HB5.out⟩
set_option maxHeartbeats 2000000 in
theorem overlayR_calls (a b : List S53) (A B : Option Addr) (ca cb : Nat) (w : World) (ha : Kd.C k53 w A a.length a) (hb : Kd.C k53 w B b.length b) (hca : a.length ≤ ca) (hcb : b.length ≤ cb) (h100 : a.length ≤ 100) (h100b : b.length ≤ 100) :
    Calls Try.prog 43 #[.slice A a.length ca, .slice B b.length cb] w (MapRes (overlayR a b) w) := by
  have HA := Aside0.mk ha
  have HB := Aside0.mk hb
  have HCA := Aside0.mk hca
  have HCB := Aside0.mk hcb
  have H100 := Aside0.mk h100
  have H100B := Aside0.mk h100b
  clear ha hb hca hcb h100 h100b
  cases hv : validP a with
  | false =>
    have e1 : overlayR a b = errR := by simp only [overlayR, hv, Bool.false_and]; rfl
    rw [e1]
    clear e1
    go_enter Try.func43, Try.ntmps43
    go_wp2_with fail
    refine (validR_calls a A ca _ HA.out HCA.out (by have := H100.out; omega)).mono ?_
    rintro e w1 ⟨rfl, h1⟩
    have H1 := Aside0.mk h1
    clear h1
    rw [hv]
    clear hv
    go_wp2_with fail
    go_ret2
    exact ⟨_, rfl, Kd.R_nil _ _ _ _ _, H1.out⟩
  | true =>
    have hla := validP_len hv
    cases hv2 : validP b with
    | false =>
      have e1 : overlayR a b = errR := by simp only [overlayR, hv2, Bool.and_false]; rfl
      rw [e1]
      clear e1
      go_enter Try.func43, Try.ntmps43
      go_wp2_with fail
      refine (validR_calls a A ca _ HA.out HCA.out (by have := H100.out; omega)).mono ?_
      rintro e w1 ⟨rfl, h1⟩
      have H1 := Aside0.mk h1
      clear h1 hla
      rw [hv]
      clear hv
      go_wp2_with fail
      refine (validR_calls b B cb w1 (Kd.C_below HB.out H1.out) HCB.out (by have := H100B.out; omega)).mono ?_
      rintro e w2 ⟨rfl, h2⟩
      have H2 := Aside0.mk (below_step H1.out h2)
      clear h2
      rw [hv2]
      clear hv2
      go_wp2_with fail
      go_ret2
      exact ⟨_, rfl, Kd.R_nil _ _ _ _ _, H2.out⟩
    | true =>
      have hlb := validP_len hv2
      have e1 : overlayR a b = refComb a b 0 (-1) (-1) := by simp only [overlayR, hv, hv2, Bool.and_self, if_true]
      rw [e1]
      clear e1
      have HLA := Aside0.mk hla
      have HLB := Aside0.mk hlb
      clear hla hlb
      go_enter Try.func43, Try.ntmps43
      go_wp2_with fail
      refine (validR_calls a A ca _ HA.out HCA.out (by have := H100.out; omega)).mono ?_
      rintro e w1 ⟨rfl, h1⟩
      have H1 := Aside0.mk h1
      clear h1
      rw [hv]
      clear hv
      go_wp2_with fail
      refine (validR_calls b B cb w1 (Kd.C_below HB.out H1.out) HCB.out (by have := H100B.out; omega)).mono ?_
      rintro e w2 ⟨rfl, h2⟩
      have H2 := Aside0.mk (below_step H1.out h2)
      clear h2
      rw [hv2]
      clear hv2
      go_wp2_with fail
      refine (refcomb_calls a b A B ca cb 0 (-1) (-1) w2 (Kd.C_below HA.out H2.out) (Kd.C_below HB.out H2.out) HCA.out HCB.out H100.out H100B.out (by omega)).mono ?_
      intro e w5 h5
      obtain ⟨v, rfl, hR, hb5⟩ := h5.later H2.out
      have HR := Aside0.mk hR
      have HB5 := Aside0.mk hb5
      clear h5 hR hb5
      go_wp2_with fail
      go_ret2
      exact ⟨v, rfl, HR.out, HB5.out⟩

end Go.Proofs.Ytdflgjgoikofaaa.Bk

namespace Go.Proofs.Ytdflgjgoikofaaa.Bk
open Go.RowKit Go.Shelf Go.Proofs.YtdflgjgoikofaaaW.PrintWords Go.Proofs.YtdflgjgoikofaaaW.PrintLast Go.Proofs.YtdflgjgoikofaaaW.PrintMore
open Go.Proofs.Ytdflgjgoikofaaa.Ref Go.Proofs.Ytdflgjgoikofaaa.Pl Go.Proofs.Ytdflgjgoikofaaa.Rg

set_option maxHeartbeats 2000000 in
theorem swapR_calls (l : List S53) (A : Option Addr) (c : Nat) (f t : Int) (w : World) (hl : Kd.C k53 w A l.length l) (hc : l.length ≤ c) (h100 : l.length ≤ 100) :
    Calls Try.prog 44 #[.slice A l.length c, .int .i64 f, .int .i64 t] w (MapRes (swapRR l f t) w) := by
  have HL := Aside0.mk hl
  have HC := Aside0.mk hc
  have H100 := Aside0.mk h100
  clear hl hc h100
  cases hv : validP l with
  | false =>
    have e1 : swapRR l f t = errR := by simp only [swapRR, hv, Bool.false_and]; rfl
    rw [e1]
    clear e1
    go_enter Try.func44, Try.ntmps44
    go_wp2_with fail
    refine (validR_calls l A c _ HL.out HC.out (by have := H100.out; omega)).mono ?_
    rintro e w1 ⟨rfl, hb⟩
    have HB := Aside0.mk hb
    clear hb
    rw [hv]
    clear hv
    go_wp2_with fail
    go_ret2
    exact ⟨_, rfl, Kd.R_nil _ _ _ _ _, HB.out⟩
  | true =>
    cases hr : carrB f with
    | false =>
      have e1 : swapRR l f t = errR := by simp only [swapRR, hr, Bool.false_and, Bool.and_false]; rfl
      rw [e1]
      clear e1
      go_enter Try.func44, Try.ntmps44
      go_wp2_with fail
      refine (validR_calls l A c _ HL.out HC.out (by have := H100.out; omega)).mono ?_
      rintro e w1 ⟨rfl, hb⟩
      have HB := Aside0.mk hb
      clear hb
      rw [hv]
      clear hv
      go_wp2_with fail
      refine (carrierR_calls f w1).mono ?_
      rintro e w2 ⟨rfl, ⟨q, rfl⟩⟩
      rw [hr]
      clear hr
      go_wp2_with fail
      go_ret2
      exact ⟨_, rfl, Kd.R_nil _ _ _ _ _, pw_below_drewN HB.out q⟩
    | true =>
      cases hk : carrB t with
      | false =>
        have e1 : swapRR l f t = errR := by simp only [swapRR, hk, Bool.and_false]; rfl
        rw [e1]
        clear e1
        go_enter Try.func44, Try.ntmps44
        go_wp2_with fail
        refine (validR_calls l A c _ HL.out HC.out (by have := H100.out; omega)).mono ?_
        rintro e w1 ⟨rfl, hb⟩
        have HB := Aside0.mk hb
        clear hb
        rw [hv]
        clear hv
        go_wp2_with fail
        refine (carrierR_calls f w1).mono ?_
        rintro e w2 ⟨rfl, ⟨q, rfl⟩⟩
        rw [hr]
        clear hr
        go_wp2_with fail
        refine (carrierR_calls t _).mono ?_
        rintro e w2 ⟨rfl, ⟨q2, rfl⟩⟩
        rw [hk]
        clear hk
        go_wp2_with fail
        go_ret2
        exact ⟨_, rfl, Kd.R_nil _ _ _ _ _, pw_below_drewN HB.out _⟩
      | true =>
        have e1 : swapRR l f t = refComb l [] 0 f t := by simp only [swapRR, hv, hr, hk, Bool.and_self, if_true]
        rw [e1]
        clear e1
        go_enter Try.func44, Try.ntmps44
        go_wp2_with fail
        refine (validR_calls l A c _ HL.out HC.out (by have := H100.out; omega)).mono ?_
        rintro e w1 ⟨rfl, hb⟩
        have HB := Aside0.mk hb
        clear hb
        rw [hv]
        clear hv
        go_wp2_with fail
        refine (carrierR_calls f w1).mono ?_
        rintro e w2 ⟨rfl, ⟨q, rfl⟩⟩
        rw [hr]
        clear hr
        go_wp2_with fail
        refine (carrierR_calls t _).mono ?_
        rintro e w2 ⟨rfl, ⟨q2, rfl⟩⟩
        rw [hk]
        clear hk
        go_wp2_with fail
        refine (refcomb_calls l [] A none c 0 0 f t (w1.drewN (q + q2)) (Kd.C_below HL.out (pw_below_drewN HB.out _)) (Kd.C_nil _ _) HC.out (by simp) (by have := H100.out; omega) (by simp) (by omega)).mono ?_
        intro e w5 h5
        obtain ⟨v, rfl, hR, hb5⟩ := h5.later (pw_below_drewN HB.out (q + q2))
        have HR := Aside0.mk hR
        have HB5 := Aside0.mk hb5
        clear h5 hR hb5
        go_wp2_with fail
        go_ret2
        exact ⟨v, rfl, HR.out, HB5.out⟩
end Go.Proofs.Ytdflgjgoikofaaa.Bk
