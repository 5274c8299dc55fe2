/- What Implied and Cycle of package between return. -/
import Derived.Test.YtlokeimfmbgigaaZ4
import Derived.RangeFuncBox
import Derived.ArgAppend
set_option linter.unusedVariables false
set_option linter.unusedSimpArgs false
set_option linter.unusedVariables false
namespace Go.Proofs.Ytlokeimfmbgigaa.Bk
open Go.RowKit Go.Shelf Go.Proofs.YtlokeimfmbgigaaW.PrintWords Go.Proofs.YtlokeimfmbgigaaW.PrintLast Go.Proofs.YtlokeimfmbgigaaW.PrintMore
open Go.Proofs.Ytlokeimfmbgigaa.Ref Go.Proofs.Ytlokeimfmbgigaa.Pl Go.Proofs.Ytlokeimfmbgigaa.Qs Go.Proofs.Ytlokeimfmbgigaa.Rg

theorem Mat.typed {w w' : World} {base g n : Nat} {rows caps : Nat → Nat} {D : Ti} (h : Mat w base g n rows caps D) (hs : ∀ (k : Nat) (cur : Array Value) (t : TypeId), (t = 22 ∨ t = 3) → w.heap[k]? = some (.cells cur t (0, 0)) → w'.heap[k]? = some (.cells cur t (0, 0))) : Mat w' base g n rows caps D :=
  ⟨by obtain ⟨cur, h1, h2⟩ := h.outer; exact ⟨cur, hs _ _ _ (.inl rfl) h1, h2⟩, fun j hj => by obtain ⟨cur, h1, h2⟩ := h.inner j hj; exact ⟨cur, hs _ _ _ (.inr rfl) h1, h2⟩, h.gb, h.rb, h.inj, h.cap⟩
theorem Table.typed {n : Nat} {D : Ti} {base : Nat} {w w' : World} {v : Value} (h : Table n D base w v) (hs : ∀ (k : Nat) (cur : Array Value) (t : TypeId), (t = 22 ∨ t = 3) → w.heap[k]? = some (.cells cur t (0, 0)) → w'.heap[k]? = some (.cells cur t (0, 0))) : Table n D base w' v := by
  obtain ⟨g, rows, caps, rfl, hM⟩ := h
  exact ⟨g, rows, caps, rfl, hM.typed hs⟩
/-- The collected tables: bw holds the slice, all below bw is as it was in W5. -/
def WI (W5 : World) (bw n : Nat) (l : List S35) (m : Nat) (W : World) : Prop :=
  (∃ (vw : Value) (tabs : List Value), W.heap[bw]? = some (.cells #[vw] 66 (0, 0)) ∧ W.ownsRow (bw + 2) 38 1 vw m tabs ∧ ∀ j, j < m → ∃ v, tabs[j]? = some v ∧ Table n (walkI (bds l) j) 0 W v) ∧ Below bw W5 W ∧ bw + 2 ≤ W.heap.size
theorem WI.turned {W5 : World} {bw n : Nat} {l : List S35} {m : Nat} {A B : World} {B0 : Nat} (h : WI W5 bw n l m A) (hB0 : bw ≤ B0) (hT : TurnedL Nobody B0 A B) : WI W5 bw n l m B := by
  obtain ⟨⟨vw, tabs, h1, h2, h3⟩, h4, h5⟩ := h
  refine ⟨⟨vw, tabs, hT.cells h1 (fun h => h), own_move h2 (fun k hk => ?_), fun j hj => ?_⟩, ⟨hT.os.trans h4.os, hT.tape.trans h4.tape, hT.output.trans h4.output, Nat.le_trans h4.size hT.size, fun k hk => (hT.block k (by omega) (fun h => h) (.inl (by omega))).trans (h4.block k hk)⟩, Nat.le_trans h5 hT.size⟩
  · obtain ⟨cells, hc⟩ := own_typed h2 k hk
    exact (hT.cells hc (fun h => h)).trans hc.symm
  · obtain ⟨v, hv, ht⟩ := h3 j hj
    exact ⟨v, hv, ht.typed (fun k cur t _ hk => hT.cells hk (fun h => h))⟩
theorem WTab.turned {w0 : World} {bB n : Nat} {l : List S35} {Ad : Option Addr} {c m : Nat} {v : Value} {A B : World} {B0 : Nat} (h : WTab w0 bB n l Ad c m v A) (hB0 : w0.heap.size ≤ B0) (hT : TurnedL Nobody B0 A B) : WTab w0 bB n l Ad c m v B := by
  obtain ⟨h1, h2, h3⟩ := h
  exact ⟨hT.cells h1 (fun h => h), ⟨hT.os.trans h2.os, hT.tape.trans h2.tape, hT.output.trans h2.output, Nat.le_trans h2.size hT.size, fun k hk => (hT.block k (by have := h2.size; omega) (fun h => h) (.inl (by omega))).trans (h2.block k hk)⟩, h3.typed (fun k cur t _ hk => hT.cells hk (fun h => h))⟩
theorem WI.start {W5 : World} {bw n : Nat} {l : List S35} (h : W5.heap[bw]? = some (.cells #[.slice none 0 0] 66 (0, 0))) (hs : bw + 2 ≤ W5.heap.size) : WI W5 bw n l 0 W5 :=
  ⟨⟨.slice none 0 0, [], h, ⟨rfl, .inl ⟨rfl, rfl⟩⟩, fun j hj => absurd hj (Nat.not_lt_zero j)⟩, Below.refl _ _, hs⟩
/-- What an append of the next table, and the store of the slice, turn. -/
theorem WI.push {w0 W5 : World} {bw n : Nat} {l : List S35} {Ad : Option Addr} {c m : Nat} {v vw : Value} {tabs : List Value} {W2 W4 : World} {q : Nat} {g cap : Nat} (hw0 : w0.heap.size ≤ bw) (hT : WTab w0 (bw + 1) n l Ad c m v W2) (h1 : W2.heap[bw]? = some (.cells #[vw] 66 (0, 0))) (h2 : W2.ownsRow (bw + 2) 38 1 vw m tabs)
    (h3 : ∀ j, j < m → ∃ v, tabs[j]? = some v ∧ Table n (walkI (bds l) j) 0 W2 v) (h4 : Below bw W5 W2) (h5 : bw + 2 ≤ W2.heap.size) (hg : ((W2.drewN q).alloc (.cells #[v] 38)).grownBy W4 vw.ownBlock) (hown : W4.ownsRow (bw + 2) 38 1 (.slice (some ⟨g, 0, none⟩) (m + 1) cap) (m + 1) (tabs ++ [v])) (p : Nat) :
    WI W5 bw n l (m + 1) ((W4.setCell ⟨bw, 0, none⟩ (.slice (some ⟨g, 0, none⟩) (m + 1) cap)).drewN p) ∧ WTab w0 (bw + 1) n l Ad c m v ((W4.setCell ⟨bw, 0, none⟩ (.slice (some ⟨g, 0, none⟩) (m + 1) cap)).drewN p) ∧ ∀ B0, bw + 2 ≤ B0 → KeepsFrom B0 W2 ((W4.setCell ⟨bw, 0, none⟩ (.slice (some ⟨g, 0, none⟩) (m + 1) cap)).drewN p) := by
  have hs4 : ∀ k, k < W2.heap.size → some k ≠ vw.ownBlock → W4.heap[k]? = W2.heap[k]? := fun k hk he => (hg.block k (by simp; omega) he).trans (Below.heap_alloc _ _ _ hk)
  have hsz : W2.heap.size ≤ W4.heap.size := by have := hg.size; simp at this; omega
  have hown_lt : ∀ k, k < bw + 2 → some k ≠ vw.ownBlock := fun k hk e => by have := own_base h2 k e.symm; omega
  have hs : ∀ k, k < W2.heap.size → k ≠ bw → some k ≠ vw.ownBlock → ((W4.setCell ⟨bw, 0, none⟩ (.slice (some ⟨g, 0, none⟩) (m + 1) cap)).drewN p).heap[k]? = W2.heap[k]? := fun k hk hn he => (Below.heap_setCell _ _ _ _ hn).trans (hs4 k hk he)
  have hty : ∀ (k : Nat) (cur : Array Value) (t : TypeId), (t = 22 ∨ t = 3) → W2.heap[k]? = some (.cells cur t (0, 0)) → ((W4.setCell ⟨bw, 0, none⟩ (.slice (some ⟨g, 0, none⟩) (m + 1) cap)).drewN p).heap[k]? = some (.cells cur t (0, 0)) := fun k cur t ht hk => by
    refine (hs k (blk_lt hk) (fun e => ?_) (fun e => ?_)).trans hk
    · subst e
      rw [h1] at hk
      cases hk
      rcases ht with h | h <;> cases h
    · exact own_ne h2 hk (by rcases ht with rfl | rfl <;> decide) e.symm
  have hS : (W4.setCell ⟨bw, 0, none⟩ (.slice (some ⟨g, 0, none⟩) (m + 1) cap)).heap.size = W4.heap.size := by simp [World.setCell]
  have hbel : ∀ {V : World} {B : Nat}, B ≤ bw → Below B V W2 → Below B V ((W4.setCell ⟨bw, 0, none⟩ (.slice (some ⟨g, 0, none⟩) (m + 1) cap)).drewN p) := fun {V B} hB hb => by
    refine ⟨hg.os.trans hb.os, hg.tape.trans hb.tape, hg.output.trans hb.output, ?_, fun k hk => ?_⟩
    · show V.heap.size ≤ (W4.setCell _ _).heap.size
      rw [hS]; exact Nat.le_trans hb.size hsz
    · exact (hs k (by omega) (by omega) (hown_lt k (by omega))).trans (hb.block k hk)
  refine ⟨⟨⟨_, tabs ++ [v], blk_drewN (blk_put ((hs4 bw (blk_lt h1) (hown_lt bw (by omega))).trans h1) 0 _ rfl) p, ?_, fun j hj => ?_⟩, hbel (Nat.le_refl _) h4, ?_⟩, ⟨?_, hbel hw0 hT.2.1, hT.2.2.typed hty⟩, fun B0 hB0 => ⟨?_, fun k o hk ho hc => ?_⟩⟩
  · refine own_move (w := W4) hown (fun k hk => ?_)
    have := own_base hown k hk
    exact Below.heap_setCell _ _ _ _ (by simp only; omega)
  · by_cases he : j < m
    · obtain ⟨v', hv', ht'⟩ := h3 j he
      exact ⟨v', by rw [List.getElem?_append_left (Array.getElem?_eq_some_iff.1 (by simpa using hv') |>.1)]; exact hv', ht'.typed hty⟩
    · obtain rfl : j = m := by omega
      refine ⟨v, ?_, hT.2.2.typed hty⟩
      rw [List.getElem?_append_right (by have := h2.1; omega), show j - tabs.length = 0 by have := h2.1; omega]
      rfl
  · show bw + 2 ≤ (W4.setCell _ _).heap.size
    rw [hS]; omega
  · exact (hs _ (by omega) (by omega) (hown_lt _ (by omega))).trans hT.1
  · show W2.heap.size ≤ (W4.setCell _ _).heap.size
    rw [hS]; exact hsz
  · refine (hs k (blk_lt ho) (by omega) (fun e => ?_)).trans ho
    obtain ⟨cells, hcc⟩ := own_typed h2 k e.symm
    rw [hcc] at ho; cases ho; cases hc
/-- The collected tables, as chain reads them. -/
theorem WI.tabs {W5 : World} {bw n : Nat} {l : List S35} {m : Nat} {W : World} (h : WI W5 bw n l (m + 1) W) : ∃ gw cw, W.heap[bw]? = some (.cells #[.slice (some ⟨gw, 0, none⟩) (m + 1) cw] 66 (0, 0)) ∧ Tabs W gw (m + 1) n l := by
  obtain ⟨⟨vw, tabs, h1, h2, h3⟩, h4, h5⟩ := h
  rcases h2.2 with ⟨_, h0⟩ | ⟨gw, cw, cur, rfl, hb, hg, hn, _, hsz, htk⟩
  · omega
  refine ⟨gw, cw, h1, cur, hg, fun j hj => ?_⟩
  obtain ⟨v, hv, g, rows, caps, rfl, hM⟩ := h3 j hj
  refine ⟨g, rows, caps, ?_, hM⟩
  rw [← htk, List.getElem?_take_of_lt (by omega), Array.getElem?_toList] at hv
  exact hv
end Go.Proofs.Ytlokeimfmbgigaa.Bk

set_option linter.unusedVariables false
namespace Go.Proofs.Ytlokeimfmbgigaa.Pl
open Go.Proofs.YtlokeimfmbgigaaW.PrintWords
open Go.Proofs.Ytlokeimfmbgigaa.Ref Go.Proofs.Ytlokeimfmbgigaa.Bk
/-- Does a bound follow? -/
def impliedB (n : Int) (l : List S35) (x : S35) : Bool := validB n l && boundB n x && fineB n.toNat l && decide (distI n.toNat (bds l) x.f0.toNat x.f1.toNat ≤ x.f2)
/-- The fewest bounds that show it. -/
def leastM (l : List S35) (f t : Nat) (s : Int) : Nat := (List.range 18).findIdx fun m => decide (walkI (bds l) m f t ≤ s)
def impK (l : List S35) (x : S35) : List Nat := chainK l x.f1.toNat (leastM l x.f0.toNat x.f1.toNat x.f2) x.f0.toNat x.f2
theorem leastM_is {l : List S35} {f t : Nat} {s : Int} {m : Nat} (hm : m ≤ 17) (h1 : walkI (bds l) m f t ≤ s) (h2 : ∀ j, j < m → s < walkI (bds l) j f t) : leastM l f t s = m := by
  unfold leastM
  have hg : ∀ j, j < 18 → (List.range 18).getD j 0 = j := fun j hj => by rw [List.getD_eq_getElem?_getD, List.getElem?_range hj]; rfl
  refine findIdx_is (d := 0) (by simp; omega) ?_ (fun j hj => ?_)
  · rw [hg m (by omega), decide_eq_true_eq]; exact h1
  · rw [hg j (by omega), decide_eq_false_iff_not]; have := h2 j hj; omega
theorem imp_ex {n : Nat} {l : List S35} (hv : validB n l = true) (hf : fineB n l = true) {f t : Nat} (hf' : f < n) (ht : t < n) {s : Int} (hs : s < Far) (h : distI n (bds l) f t ≤ s) :
    ∃ m, m ≤ n ∧ walkI (bds l) m f t ≤ s ∧ ∀ j, j < m → s < walkI (bds l) j f t := by
  have hn : n ≤ 16 := by have := valid_n hv; omega
  have hin : In n (bds l) := by have := bds_in hv; simpa using this
  have hF := (fineB_iff hv).1 hf
  rw [← dist_tie hn (bds_small hv)] at h
  have hle : LeO (distT n (bds l) f t) s := by
    cases hd : distT n (bds l) f t with
    | none => simp only [encT, hd, encF, Option.getD_none] at h; omega
    | some y => simp only [encT, hd, encF, Option.getD_some] at h; exact ⟨y, rfl, h⟩
  obtain ⟨y, hy, hys⟩ := hle
  obtain ⟨m, hm⟩ := ((dist_least hin hF).1 f t y hy).chN
  obtain ⟨m', s', h1, _, h2, h3⟩ := ChN.short hin hF m hm
  have hex : ∃ m, m ≤ n ∧ walkI (bds l) m f t ≤ s := ⟨m', h1, (walkI_le (bds_small hv) (by omega) hs).2 ((walk_least _ h3).mono (by omega))⟩
  clear hy hys hm h1 h2 h3
  obtain ⟨m, hm, hw⟩ := hex
  induction m using Nat.strongRecOn with
  | ind m ih =>
    by_cases hall : ∀ j, j < m → s < walkI (bds l) j f t
    · exact ⟨m, hm, hw, hall⟩
    · simp only [Classical.not_forall] at hall
      obtain ⟨j, hj, hj2⟩ := hall
      exact ih j hj (by omega) (by omega)
end Go.Proofs.Ytlokeimfmbgigaa.Pl
namespace Go.Proofs.Ytlokeimfmbgigaa.Bk
open Go.RowKit Go.Shelf Go.Proofs.YtlokeimfmbgigaaW.PrintWords Go.Proofs.YtlokeimfmbgigaaW.PrintLast Go.Proofs.YtlokeimfmbgigaaW.PrintMore
open Go.Proofs.Ytlokeimfmbgigaa.Ref Go.Proofs.Ytlokeimfmbgigaa.Pl Go.Proofs.Ytlokeimfmbgigaa.Qs Go.Proofs.Ytlokeimfmbgigaa.Rg
attribute [local go_sem] Oper.semAt_some

def ListRes (b : Bool) (ks : List Nat) (w : World) (e : Ending) (w' : World) : Prop :=
  ∃ v, e = .returned (.tuple #[v, .bool b]) ∧ (b = true → w'.ownsRow w.heap.size 3 1 v ks.length (natsV ks)) ∧ (b = false → v = .slice none 0 0) ∧ Below w.heap.size w w'
set_option maxHeartbeats 4000000 in
set_option maxRecDepth 100000 in
theorem implied_calls (n : Int) (l : List S35) (A : Option Addr) (c : Nat) (x : S35) (w : World) (hl : Kd.C k35 w A l.length l) :
    Calls Try.prog 14 #[.agg #[.int .i64 n, .slice A l.length c], .agg #[.int .i64 x.f0, .int .i64 x.f1, .int .i64 x.f2]] w (ListRes (impliedB n l x) (impK l x) w) := by
  have h1 := (Below.refl _ w).alloc (Nat.le_refl _) (.cells #[.int .i64 n, .slice A l.length c] 30)
  have h2 := (Below.refl _ (w.alloc (.cells #[.int .i64 n, .slice A l.length c] 30))).alloc (Nat.le_refl _) (.cells #[.int .i64 x.f0, .int .i64 x.f1, .int .i64 x.f2] 35)
  have hr := blk_new (w.alloc (.cells #[.int .i64 n, .slice A l.length c] 30)) (.cells #[.int .i64 x.f0, .int .i64 x.f1, .int .i64 x.f2] 35)
  rw [World.size_alloc] at hr
  have F := Aside0.mk (And.intro hl (And.intro (blk_below (blk_new w (.cells #[.int .i64 n, .slice A l.length c] 30)) h2) (And.intro hr (below_step h1 h2))))
  have k0 : ((w.alloc (.cells #[.int .i64 n, .slice A l.length c] 30)).alloc (.cells #[.int .i64 x.f0, .int .i64 x.f1, .int .i64 x.f2] 35)).cell? ⟨w.heap.size, 0, none⟩ = some (.int .i64 n) := (blk_cell F.out.2.1 0).trans rfl
  have k1 : ((w.alloc (.cells #[.int .i64 n, .slice A l.length c] 30)).alloc (.cells #[.int .i64 x.f0, .int .i64 x.f1, .int .i64 x.f2] 35)).cell? ⟨w.heap.size, 1, none⟩ = some (.slice A l.length c) := (blk_cell F.out.2.1 1).trans rfl
  clear hl h1 h2 hr
  refine (callsIn_wide (n := 3)).1 ?_
  refine callsIn_of_wp_marks Try.func14 rfl trivial ?_ rfl
  simp only [Try.ntmps14, List.size_toArray, List.length_cons, List.length_nil, Nat.reduceAdd, Nat.reduceSub, Array.replicate_succ, Array.replicate_zero, List.push_toArray, List.append_toArray, List.nil_append, List.cons_append]
  gi_wp2_with fail
  refine ⟨trivial, ?_⟩
  refine (callsIn_wide.2 (valid_calls n l A c _ (Kd.C_below F.out.1 F.out.2.2.2))).mono ?_
  rintro e w1 ⟨rfl, h⟩
  replace F := Aside0.mk (And.intro F.out.1 (And.intro (blk_below F.out.2.1 h) (And.intro (blk_below F.out.2.2.1 h) (below_step F.out.2.2.2 h))))
  clear k0 k1 h
  cases hv : validB n l with
  | false =>
    have HV := Aside0.mk (show impliedB n l x = false by unfold impliedB; rw [hv]; rfl)
    clear hv
    gi_wp2_with fail
    refine ⟨trivial, ?_⟩
    gi_wp2_with fail
    refine ⟨_, results_tmp2 rfl _ _ _, ?_⟩
    exact ⟨.slice none 0 0, by rw [HV.out]; rfl, (fun h => absurd (HV.out.symm.trans h) (by decide)), fun _ => rfl, F.out.2.2.2⟩
  | true =>
    obtain ⟨N, hN⟩ : ∃ N : Nat, n = N := ⟨n.toNat, by have := valid_n hv; omega⟩
    subst hN
    have hn16 : N ≤ 16 := by have := valid_n hv; omega
    have HVV := Aside0.mk hv
    have k0 : w1.cell? ⟨w.heap.size, 0, none⟩ = some (.int .i64 N) := (blk_cell F.out.2.1 0).trans rfl
    have k1 : w1.cell? ⟨w.heap.size, 1, none⟩ = some (.slice A l.length c) := (blk_cell F.out.2.1 1).trans rfl
    have x0 : w1.cell? ⟨w.heap.size + 1, 0, none⟩ = some (.int .i64 x.f0) := (blk_cell F.out.2.2.1 0).trans rfl
    have x1 : w1.cell? ⟨w.heap.size + 1, 1, none⟩ = some (.int .i64 x.f1) := (blk_cell F.out.2.2.1 1).trans rfl
    have x2 : w1.cell? ⟨w.heap.size + 1, 2, none⟩ = some (.int .i64 x.f2) := (blk_cell F.out.2.2.1 2).trans rfl
    clear hv
    gi_wp2_with fail
    refine ⟨trivial, ?_⟩
    refine (callsIn_wide.2 (isBound_calls N (valid_n HVV.out) x _)).mono ?_
    rintro e w2 ⟨rfl, h⟩
    replace F := Aside0.mk (And.intro F.out.1 (And.intro (blk_below F.out.2.1 h) (And.intro (blk_below F.out.2.2.1 h) (below_step F.out.2.2.2 h))))
    clear k0 k1 x0 x1 x2 h
    cases hb : boundB N x with
    | false =>
      have HV := Aside0.mk (show impliedB N l x = false by unfold impliedB; rw [hb, Bool.and_false]; rfl)
      clear hb
      gi_wp2_with fail
      refine ⟨_, results_tmp2 rfl _ _ _, ?_⟩
      exact ⟨.slice none 0 0, by rw [HV.out]; rfl, (fun h => absurd (HV.out.symm.trans h) (by decide)), fun _ => rfl, F.out.2.2.2⟩
    | true =>
      obtain ⟨f, t, q, hx, hf, ht, hq⟩ : ∃ (f t : Nat) (q : Int), x = ⟨f, t, q⟩ ∧ f < N ∧ t < N ∧ -1000000000 ≤ q ∧ q ≤ 1000000000 := by
        obtain ⟨y0, y1, y2⟩ := x
        unfold boundB at hb
        simp only [Bool.and_eq_true, decide_eq_true_eq] at hb
        refine ⟨y0.toNat, y1.toNat, y2, ?_, by omega, by omega, hb.2.1, hb.2.2⟩
        rw [Int.toNat_of_nonneg hb.1.1.1, Int.toNat_of_nonneg hb.1.2.1]
      subst hx
      have HQ := Aside0.mk (And.intro hf (And.intro ht hq))
      have HI := Aside0.mk (show impliedB N l ⟨f, t, q⟩ = (fineB N l && decide (distI N (bds l) f t ≤ q)) by unfold impliedB; rw [HVV.out, hb, Bool.true_and, Bool.true_and, Int.toNat_natCast, Int.toNat_natCast, Int.toNat_natCast])
      have k0 : w2.cell? ⟨w.heap.size, 0, none⟩ = some (.int .i64 N) := (blk_cell F.out.2.1 0).trans rfl
      have k1 : w2.cell? ⟨w.heap.size, 1, none⟩ = some (.slice A l.length c) := (blk_cell F.out.2.1 1).trans rfl
      clear hb hf ht hq
      gi_wp2_with fail
      refine ⟨trivial, ?_⟩
      refine (callsIn_wide.2 (distances_calls N l HVV.out A c _ (Kd.C_below F.out.1 F.out.2.2.2))).mono ?_
      rintro e w3 ⟨v, rfl, hT, hF, h⟩
      replace F := Aside0.mk (And.intro F.out.1 (And.intro (blk_below F.out.2.1 h) (And.intro (blk_below F.out.2.2.1 h) (below_step F.out.2.2.2 h))))
      have HT := Aside0.mk hT
      clear k0 k1 h hT hF
      cases hfi : fineB N l with
      | false =>
        have HV := Aside0.mk (show impliedB N l ⟨f, t, q⟩ = false by rw [HI.out, hfi, Bool.false_and])
        clear hfi
        gi_wp2_with fail
        refine wpIn_wide.2 ?_
        go_quiet (fail)
        gi_wp2_with fail
        refine ⟨_, results_tmp2 rfl _ _ _, ?_⟩
        exact ⟨.slice none 0 0, by rw [HV.out]; rfl, (fun h => absurd (HV.out.symm.trans h) (by decide)), fun _ => rfl, pw_below_drewN F.out.2.2.2 _⟩
      | true =>
        obtain ⟨g, rows, caps, rfl, hM⟩ := HT.out hfi
        have y0 := hM.row HQ.out.1
        have y1 := hM.cell HQ.out.1 HQ.out.2.1
        have x0 : w3.cell? ⟨w.heap.size + 1, 0, none⟩ = some (.int .i64 f) := (blk_cell F.out.2.2.1 0).trans rfl
        have x1 : w3.cell? ⟨w.heap.size + 1, 1, none⟩ = some (.int .i64 t) := (blk_cell F.out.2.2.1 1).trans rfl
        have x2 : w3.cell? ⟨w.heap.size + 1, 2, none⟩ = some (.int .i64 q) := (blk_cell F.out.2.2.1 2).trans rfl
        have q1 := eq_true (show (f : Int) < (N : Int) by have := HQ.out.1; omega)
        have q2 := eq_true (show (0 : Int) ≤ (f : Int) by omega)
        have q3 := eq_true (show (t : Int) < (N : Int) by have := HQ.out.2.1; omega)
        have q4 := eq_true (show (0 : Int) ≤ (t : Int) by omega)
        have HFI := Aside0.mk hfi
        by_cases hd : distI N (bds l) f t ≤ q
        · have hdb : decide (q < distI N (bds l) f t) = false := decide_eq_false (by omega)
          have HV := Aside0.mk (show impliedB N l ⟨f, t, q⟩ = true by rw [HI.out, hfi, decide_eq_true hd]; rfl)
          obtain ⟨m0, e1, e2, e3⟩ := imp_ex HVV.out hfi HQ.out.1 HQ.out.2.1 (s := q) (by have := HQ.out.2.2; unfold Far; omega) hd
          have HM0 := Aside0.mk (And.intro e1 (And.intro e2 e3))
          generalize distI N (bds l) f t = dd at y1 hdb
          clear hfi hM hd HT e1 e2 e3
          gi_wp2_with fail
          refine wpIn_wide.2 ?_
          go_quiet (fail)
          clear y0 y1 hdb x0 x1 x2
          replace F := Aside0.mk (And.intro F.out.1 (And.intro (blk_drewN F.out.2.1 nq) (And.intro (blk_drewN F.out.2.2.1 nq) (pw_below_drewN F.out.2.2.2 nq))))
          generalize w3.drewN nq = X at F ⊢
          have hYb := (Below.refl _ X).alloc (Nat.le_refl _) (.cells #[.slice none 0 0] 66)
          have k0 : (X.alloc (.cells #[.slice none 0 0] 66)).cell? ⟨w.heap.size, 0, none⟩ = some (.int .i64 N) := pw_cell_below hYb ((blk_cell F.out.2.1 0).trans rfl)
          have k1 : (X.alloc (.cells #[.slice none 0 0] 66)).cell? ⟨w.heap.size, 1, none⟩ = some (.slice A l.length c) := pw_cell_below hYb ((blk_cell F.out.2.1 1).trans rfl)
          have HYB := Aside0.mk hYb
          clear hYb
          gi_wp2_with fail
          refine ⟨trivial, ?_⟩
          refine (callsIn_wide.2 (walks_calls N A l.length c _)).mono ?_
          rintro e w4 ⟨rfl, rfl⟩
          gi_wp2_with fail
          have hY2 := (Below.refl _ (X.alloc (.cells #[.slice none 0 0] 66))).alloc (Nat.le_refl _) (.cells #[.int .i64 (N : Int), .slice A l.length c] 30)
          have b0 := blk_below (blk_new X (.cells #[.slice none 0 0] 66)) hY2
          have b1 : ((X.alloc (.cells #[.slice none 0 0] 66)).alloc (.cells #[.int .i64 (N : Int), .slice A l.length c] 30)).heap[X.heap.size + 1]? = some (.cells #[.int .i64 (N : Int), .slice A l.length c] 30 (0, 0)) := by
            have := blk_new (X.alloc (.cells #[.slice none 0 0] 66)) (.cells #[.int .i64 (N : Int), .slice A l.length c] 30)
            rwa [World.size_alloc] at this
          have hB5 := below_step HYB.out hY2
          have hW5 := below_step F.out.2.2.2 hB5
          have hsz5 : ((X.alloc (.cells #[.slice none 0 0] 66)).alloc (.cells #[.int .i64 (N : Int), .slice A l.length c] 30)).heap.size = X.heap.size + 2 := by simp
          have HSX : w.heap.size + 2 ≤ X.heap.size := by have h1 := blk_lt F.out.2.2.1; omega
          obtain ⟨bw, hbw⟩ : ∃ bw, bw = X.heap.size := ⟨_, rfl⟩
          rw [← hbw] at b0 b1 hsz5 HSX ⊢
          generalize (X.alloc (.cells #[.slice none 0 0] 66)).alloc (.cells #[.int .i64 (N : Int), .slice A l.length c] 30) = W5 at b0 b1 hB5 hW5 hsz5 hY2 ⊢
          clear k0 k1 hY2
          have FS := Aside0.mk (And.intro (show W5.heap[w.heap.size]? = some (.cells #[.int .i64 (N : Int), .slice A l.length c] 30 (0, 0)) from (hB5.block _ (by omega)).trans F.out.2.1) (And.intro (show W5.heap[w.heap.size + 1]? = some (.cells #[.int .i64 (f : Int), .int .i64 (t : Int), .int .i64 q] 35 (0, 0)) from (hB5.block _ (by omega)).trans F.out.2.2.1) hW5))
          have HI0 := Aside0.mk (WI.start (l := l) (n := N) b0 (by omega))
          have HB1 := Aside0.mk b1
          have HSZ := Aside0.mk (And.intro hsz5 HSX)
          have HLC := Aside0.mk F.out.1
          clear b0 b1 hB5 hW5 hsz5 HSX HYB F hbw
          refine wpIn_endless (Tab := WTab w (bw + 1) N l A c) rfl (by omega) (gf := 59) (lb := #[.pointer (some ⟨bw + 1, 0, none⟩)]) rfl trivial (enters_of Try.func59 (by kernel_rfl) rfl) 17 (by omega) ?hseq
            (fun m W => WI W5 bw N l m W ∧ ∀ j, j < m → q < walkI (bds l) j f t) (fun c W => c = .exit 0 ∧ WI W5 bw N l (m0 + 1) W) (fun m A B h hT => ⟨h.1.turned (by have := HSZ.out.1; omega) hT, h.2⟩) (fun c A B h hT => ⟨h.1, h.2.turned (by have := HSZ.out.1; omega) hT⟩)
            (fun m v A B h hT => h.turned (by have := HSZ.out; omega) hT) (fun m W h => ?hN) ⟨HI0.out, fun j hj => absurd hj (Nat.not_lt_zero j)⟩ ?round ?stop
          case hN =>
            rcases Nat.lt_or_ge m0 m with hlt | hge
            · have := h.2 m0 hlt; have := HM0.out.2.1; omega
            · have := HM0.out.1; omega
          case hseq =>
            intro W hW
            refine walks_seq 2 N l HVV.out A c (bw + 1) w W ((hW.block _ (by have := HSZ.out.1; omega) (fun h => h)).trans HB1.out) HLC.out ?_
            exact ⟨hW.os.trans FS.out.2.2.os, hW.tape.trans FS.out.2.2.tape, hW.output.trans FS.out.2.2.output, Nat.le_trans FS.out.2.2.size hW.size, fun k hk => (hW.block k (by have := HSZ.out; omega) (fun h => h)).trans (FS.out.2.2.block k hk)⟩
          case round =>
            intro y m v W hy hr hI hT
            gi_wp2_with fail
            refine ⟨KeepsFrom.refl _ _, hT, ?_⟩
            intro W2 hTl hsz
            obtain ⟨⟨vw, tabs, h1, h2, h3⟩, h4, h5⟩ := hI.1.turned (by have := HSZ.out.1; omega) hTl
            have hT2 := hT.turned (by have := HSZ.out; omega) hTl
            have hlow := hI.2
            obtain ⟨g', rows', caps', hv', hM'⟩ := hT2.2.2
            subst hv'
            have HP := Aside0.mk (fun (W4 : World) (gg cap : Nat) (hg : (W2.alloc (.cells #[.slice (some ⟨g', 0, none⟩) N N] 38)).grownBy W4 vw.ownBlock) (hown : W4.ownsRow (bw + 2) 38 1 (.slice (some ⟨gg, 0, none⟩) (m + 1) cap) (m + 1) (tabs ++ [.slice (some ⟨g', 0, none⟩) N N])) => WI.push (q := 0) (by have := HSZ.out.2; omega) hT2 h1 h2 h3 h4 h5 hg hown)
            have HOWN := Aside0.mk h2
            have HLOW := Aside0.mk hlow
            have HW2 := Aside0.mk (And.intro h1 h5)
            have kW : W2.cell? ⟨bw, 0, none⟩ = some vw := (blk_cell h1 0).trans rfl
            obtain ⟨i38, hi38, hz0, hz1, hz2⟩ := info_parts info38
            have HY := Aside0.mk (And.intro hi38 (And.intro hz0 (And.intro hz1 hz2)))
            have HMN := Aside0.mk (show m ≤ 17 from by
              rcases Nat.lt_or_ge m0 m with hlt | hge
              · have := hlow m0 hlt; have := HM0.out.2.1; omega
              · have := HM0.out.1; omega)
            have HMM := Aside0.mk hM'
            clear hy hr hI hT hTl hsz h1 h2 h3 h4 h5 hT2 hlow hi38 hz0 hz1 hz2 hM'
            gi_wp2_with (gi_at_builtin; refine wpListIn_append_own _ rfl _ _ 66 rfl (bw + 2) 38 i38 (.slice none 0 0) 1 24 Try.underlying66 HY.out.1 HY.out.2.1 HY.out.2.2.1 HY.out.2.2.2 rfl (by decide) vw m tabs rfl (World.ownsRow.alloc HOWN.out _) ⟨W2.heap.size, 0, none⟩ 1 1 [.slice (some ⟨g', 0, none⟩) N N] rfl rfl (World.news_of_block (cs := #[.slice (some ⟨g', 0, none⟩) N N]) (t := 38) (fr := (0, 0)) (heap_alloc_new W2 _)) (by simp [Value.oneCell']) (by unfold maxLen; have := HMN.out; omega) (by have := HMN.out; omega) (by have := HW2.out.2; simp; omega) ?_; intro v4 W4 hown4 hgrow4 _; obtain ⟨gg, cap, rfl, _⟩ := hown4.form (by omega); have kW4 : W4.cell? ⟨bw, 0, none⟩ = some vw := (blk_cell (blk_grown (blk_alloc HW2.out.1 _) hgrow4 (fun e => by have := own_base HOWN.out _ e.symm; omega)) 0).trans rfl; have fW4 := blk_frozen (blk_grown (blk_alloc HW2.out.1 _) hgrow4 (fun e => by have := own_base HOWN.out _ e.symm; omega)) 0; have HPP := Aside0.mk (HP.out W4 gg cap hgrow4 hown4); clear hown4 hgrow4)
            clear kW4 fW4 kW
            generalize W4.setCell ⟨bw, 0, none⟩ (.slice (some ⟨gg, 0, none⟩) (m + 1) cap) = Y at HPP ⊢
            obtain ⟨g6, rows6, caps6, e6, hM6⟩ := (HPP.out 0).2.1.2.2
            have hB6 := (HPP.out 0).1.2.1
            have y0 : Y.cell? ⟨g6, f, none⟩ = some (.slice (some ⟨rows6 f, 0, none⟩) N (caps6 f)) := hM6.row HQ.out.1
            have y1 : Y.cell? ⟨rows6 f, t, none⟩ = some (.int .i64 (walkI (bds l) m f t)) := hM6.cell HQ.out.1 HQ.out.2.1
            have hxb : Y.heap[w.heap.size + 1]? = some (.cells #[.int .i64 (f : Int), .int .i64 (t : Int), .int .i64 q] 35 (0, 0)) := (hB6.block _ (by have := HSZ.out.2; omega)).trans FS.out.2.1
            have x0 : Y.cell? ⟨w.heap.size + 1, 0, none⟩ = some (.int .i64 f) := (blk_cell hxb 0).trans rfl
            have x1 : Y.cell? ⟨w.heap.size + 1, 1, none⟩ = some (.int .i64 t) := (blk_cell hxb 1).trans rfl
            have x2 : Y.cell? ⟨w.heap.size + 1, 2, none⟩ = some (.int .i64 q) := (blk_cell hxb 2).trans rfl
            simp only [Value.slice.injEq, Option.some.injEq, Addr.mk.injEq, and_true, true_and] at e6
            subst e6
            obtain ⟨tb, htb⟩ : ∃ tb, tb = walkI (bds l) m f t := ⟨_, rfl⟩
            rw [← htb] at y1
            have HTB := Aside0.mk htb
            clear hM6 hB6 hxb htb
            by_cases hle : tb ≤ q
            · have hleb : decide (tb ≤ q) = true := decide_eq_true hle
              have HLE := Aside0.mk hle
              clear hle
              refine wpIn_region_quietR (by kernel_rfl) (by kernel_rfl) (by kernel_rfl) ?_
              repeat (gi_big_quiet_step (fail))
              refine wpQuietIn_nil ?_
              intro _ hw'
              obtain ⟨nq, rfl⟩ := hw'
              gi_wp2_with fail
              have hm0 : m = m0 := by
                rcases Nat.lt_trichotomy m m0 with hlt | he | hlt
                · have := HM0.out.2.2 m hlt; have := HLE.out; rw [HTB.out] at this; omega
                · exact he
                · have := HLOW.out m0 hlt; have := HM0.out.2.1; omega
              exact ⟨(HPP.out nq).2.2 _ (by have := HSZ.out.1; omega), rfl, by rw [← hm0]; exact (HPP.out nq).1⟩
            · have hleb : decide (tb ≤ q) = false := decide_eq_false hle
              have HLE := Aside0.mk hle
              clear hle
              refine wpIn_region_quietR (by kernel_rfl) (by kernel_rfl) (by kernel_rfl) ?_
              repeat (gi_big_quiet_step (fail))
              refine wpQuietIn_nil ?_
              intro _ hw'
              obtain ⟨nq, rfl⟩ := hw'
              gi_wp2_with fail
              refine ⟨(HPP.out nq).2.2 _ (by have := HSZ.out.1; omega), (HPP.out nq).2.1, (HPP.out nq).1, fun j hj => ?_⟩
              rcases Nat.lt_or_ge j m with hlt | hge
              · exact HLOW.out j hlt
              · obtain rfl : j = m := by omega
                have := HLE.out
                rw [HTB.out] at this
                omega
          case stop =>
            rintro D cc W hD ⟨rfl, hI⟩ hK
            obtain ⟨gw, cw, h1, hTT⟩ := hI.tabs
            have hbS := hI.2.1
            have k0 : W.cell? ⟨w.heap.size, 0, none⟩ = some (.int .i64 N) := (blk_cell ((hbS.block _ (by have := HSZ.out.2; omega)).trans FS.out.1) 0).trans rfl
            have k1 : W.cell? ⟨w.heap.size, 1, none⟩ = some (.slice A l.length c) := (blk_cell ((hbS.block _ (by have := HSZ.out.2; omega)).trans FS.out.1) 1).trans rfl
            have x0 : W.cell? ⟨w.heap.size + 1, 0, none⟩ = some (.int .i64 f) := (blk_cell ((hbS.block _ (by have := HSZ.out.2; omega)).trans FS.out.2.1) 0).trans rfl
            have x1 : W.cell? ⟨w.heap.size + 1, 1, none⟩ = some (.int .i64 t) := (blk_cell ((hbS.block _ (by have := HSZ.out.2; omega)).trans FS.out.2.1) 1).trans rfl
            have x2 : W.cell? ⟨w.heap.size + 1, 2, none⟩ = some (.int .i64 q) := (blk_cell ((hbS.block _ (by have := HSZ.out.2; omega)).trans FS.out.2.1) 2).trans rfl
            have kw : W.cell? ⟨bw, 0, none⟩ = some (.slice (some ⟨gw, 0, none⟩) (m0 + 1) cw) := (blk_cell h1 0).trans rfl
            have HWB := Aside0.mk (show Below w.heap.size w W from ⟨hbS.os.trans FS.out.2.2.os, hbS.tape.trans FS.out.2.2.tape, hbS.output.trans FS.out.2.2.output, Nat.le_trans FS.out.2.2.size hbS.size, fun k hk => (hbS.block k (by have := HSZ.out.2; omega)).trans (FS.out.2.2.block k hk)⟩)
            have HTT := Aside0.mk hTT
            have HK := Aside0.mk (And.intro hD hK)
            have hm17 : (m0 : Int) ≤ 17 := by have := HM0.out.1; omega
            clear hI hbS h1 hTT hD hK
            gi_wp2_with fail
            refine ⟨trivial, ?_⟩
            refine (callsIn_wide.2 (chain_calls N l HVV.out A c gw (m0 + 1) cw t m0 f q W (Kd.C_below HLC.out HWB.out) HTT.out (by omega) (by have := HM0.out.1; omega) HQ.out.2.1 HQ.out.1 (by have := HQ.out.2.2; omega) ((walkI_le (bds_small HVV.out) (by have := HM0.out.1; omega) (by have := HQ.out.2.2; unfold Far; omega)).1 HM0.out.2.1))).mono ?_
            rintro e w9 ⟨v9, rfl, hown, hb9⟩
            have HOWN := Aside0.mk hown
            have HB9 := Aside0.mk hb9
            have hK9 : w9.heap[D]? = some (.deferred (some [])) := blk_below HK.out.2 hb9
            clear k0 k1 x0 x1 x2 kw hown hb9
            gi_wp2_with fail
            refine ⟨by simp, .inl ⟨_, _, rfl, run_takeDeferred hK9, ?_⟩⟩
            refine ⟨_, results_tmp2 rfl _ _ _, ?_⟩
            have hDS : w.heap.size ≤ D := by have := HK.out.1; have := HSZ.out; omega
            refine ⟨v9, by rw [HV.out]; rfl, fun _ => ?_, (fun h => absurd (HV.out.symm.trans h) (by decide)), ?_⟩
            · have hks : impK l ⟨f, t, q⟩ = chainK l t m0 f q := by
                unfold impK
                simp only [Int.toNat_natCast]
                rw [leastM_is (by have := HM0.out.1; omega) HM0.out.2.1 HM0.out.2.2]
              rw [hks]
              refine own_move (own_weaken HOWN.out HWB.out.size) (fun k hk => ?_)
              obtain ⟨cells, hc⟩ := own_typed HOWN.out k hk
              refine World.putObj_heap_other (fun e => ?_)
              subst e
              rw [hK9] at hc
              cases hc
            · have hb := below_step HWB.out HB9.out
              exact ⟨hb.os, hb.tape, hb.output, by simpa using hb.size, fun k hk => (World.putObj_heap_other (by omega)).trans (hb.block k hk)⟩
        · have hdb : decide (q < distI N (bds l) f t) = true := decide_eq_true (by omega)
          have HV := Aside0.mk (show impliedB N l ⟨f, t, q⟩ = false by rw [HI.out, hfi, decide_eq_false hd]; rfl)
          generalize distI N (bds l) f t = dd at y1 hdb
          clear hfi hM hd HT
          gi_wp2_with fail
          refine wpIn_wide.2 ?_
          go_quiet (fail)
          gi_wp2_with fail
          refine ⟨_, results_tmp2 rfl _ _ _, ?_⟩
          exact ⟨.slice none 0 0, by rw [HV.out]; rfl, (fun h => absurd (HV.out.symm.trans h) (by decide)), fun _ => rfl, pw_below_drewN F.out.2.2.2 _⟩
end Go.Proofs.Ytlokeimfmbgigaa.Bk

set_option linter.unusedVariables false
namespace Go.Proofs.Ytlokeimfmbgigaa.Pl
open Go.Proofs.YtlokeimfmbgigaaW.PrintWords
open Go.Proofs.Ytlokeimfmbgigaa.Ref Go.Proofs.Ytlokeimfmbgigaa.Bk
/-- Does a contradiction of m bounds begin with this one? -/
def cycB (l : List S35) (m : Nat) (x : S35) : Bool := decide (plusI x.f2 (walkI (bds l) (m - 1) x.f1.toNat x.f0.toNat) < 0)
def anyC (l : List S35) (m : Nat) : Bool := decide (0 < m) && l.any (cycB l m)
def cycM (l : List S35) : Nat := (List.range 18).findIdx (anyC l)
def cycL (l : List S35) (m k : Nat) : List Nat := k :: chainK l (l.getD k z35).f0.toNat (m - 1) (l.getD k z35).f1.toNat (-1 - (l.getD k z35).f2)
/-- The least contradiction, if there is one. -/
def cycK (l : List S35) : List Nat := cycL l (cycM l) (l.findIdx (cycB l (cycM l)))
def cycleB (n : Int) (l : List S35) : Bool := validB n l && !fineB n.toNat l
theorem cycM_is {l : List S35} {m : Nat} (hm : m ≤ 17) (h1 : anyC l m = true) (h2 : ∀ j, j < m → anyC l j = false) : cycM l = m := by
  unfold cycM
  have hg : ∀ j, j < 18 → (List.range 18).getD j 0 = j := fun j hj => by rw [List.getD_eq_getElem?_getD, List.getElem?_range hj]; rfl
  refine findIdx_is (d := 0) (by simp; omega) ?_ (fun j hj => ?_)
  · rw [hg m (by omega)]; exact h1
  · rw [hg j (by omega)]; exact h2 j hj
theorem cycB_iff {n : Nat} {l : List S35} (hv : validB n l = true) {m k : Nat} (hm : m + 1 ≤ 100) {f t : Nat} {q : Int} (hk : k < l.length) (hx : l.getD k z35 = ⟨f, t, q⟩) : cycB l (m + 1) (l.getD k z35) = true ↔ LeO (walkT (bds l) m t f) (-1 - q) := by
  have hb := valid_at hv hk
  rw [hx] at hb
  rw [hx]
  unfold cycB
  have key := plusW_le (bds_small hv) (m := m) (by omega) (i := t) (k := f) (w := q) hb.2.2 (s := -1) (by unfold Far; omega)
  rw [decide_eq_true_eq, Int.toNat_natCast, Int.toNat_natCast, Nat.add_sub_cancel, ← key]
  show plusI q (walkI (bds l) m t f) < 0 ↔ _
  omega
theorem anyC_iff {n : Nat} {l : List S35} (hv : validB n l = true) {m : Nat} (hm : m ≤ 100) : anyC l m = true ↔ 0 < m ∧ ∃ j s, s < 0 ∧ ChN (bds l) m j j s := by
  unfold anyC
  rw [Bool.and_eq_true, decide_eq_true_eq]
  constructor
  · rintro ⟨h0, h⟩
    refine ⟨h0, ?_⟩
    obtain ⟨m, rfl⟩ : ∃ m', m = m' + 1 := ⟨m - 1, by omega⟩
    rw [List.any_eq_true] at h
    obtain ⟨x, hx, hc⟩ := h
    obtain ⟨k, hk, rfl⟩ := List.getElem_of_mem hx
    obtain ⟨f, t, q, e, _, _, _⟩ := bound_at hv hk
    have hgd : l.getD k z35 = l[k] := by rw [List.getD_eq_getElem?_getD, List.getElem?_eq_getElem hk]; rfl
    rw [← hgd] at hc
    obtain ⟨y, hy, hys⟩ := (cycB_iff hv hm hk e).1 hc
    have hmem : (f, t, q) ∈ bds l := List.mem_map.2 ⟨l[k], hx, by rw [← hgd, e]; simp⟩
    exact ⟨f, q + y, by omega, ChN.cons hmem (walk_sound _ m t f y hy)⟩
  · rintro ⟨h0, j, s, hs, hc⟩
    refine ⟨h0, ?_⟩
    obtain ⟨m, rfl⟩ : ∃ m', m = m' + 1 := ⟨m - 1, by omega⟩
    obtain ⟨i, w, s', he, hc', rfl⟩ := hc.succ
    obtain ⟨x, hx, e⟩ := List.mem_map.1 he
    obtain ⟨k, hk, rfl⟩ := List.getElem_of_mem hx
    obtain ⟨f, t, q, e2, _, _, _⟩ := bound_at hv hk
    have hgd : l.getD k z35 = l[k] := by rw [List.getD_eq_getElem?_getD, List.getElem?_eq_getElem hk]; rfl
    rw [← hgd, e2] at e
    simp only [Int.toNat_natCast, Prod.mk.injEq] at e
    obtain ⟨rfl, rfl, rfl⟩ := e
    rw [List.any_eq_true]
    refine ⟨l[k], hx, ?_⟩
    rw [← hgd]
    exact (cycB_iff hv hm hk e2).2 ((walk_least _ hc').mono (by omega))
theorem cyc_ex {n : Nat} {l : List S35} (hv : validB n l = true) (hf : fineB n l = false) : ∃ m, m ≤ n ∧ anyC l m = true ∧ ∀ j, j < m → anyC l j = false := by
  have hn : n ≤ 16 := by have := valid_n hv; omega
  have hin : In n (bds l) := by have := bds_in hv; simpa using this
  have hnf : ¬ Fine n (bds l) := fun h => by rw [(fineB_iff hv).2 h] at hf; cases hf
  obtain ⟨m, j, s, h1, h2, h3, h4⟩ := (not_fine hin).1 hnf
  have hex : ∃ m, m ≤ n ∧ anyC l m = true := ⟨m, h2, (anyC_iff hv (by omega)).2 ⟨h1, j, s, h3, h4⟩⟩
  clear h1 h2 h3 h4
  obtain ⟨m, hm, hw⟩ := hex
  induction m using Nat.strongRecOn with
  | ind m ih =>
    by_cases hall : ∀ j, j < m → anyC l j = false
    · exact ⟨m, hm, hw, hall⟩
    · simp only [Classical.not_forall, Bool.not_eq_false] at hall
      obtain ⟨j, hj, hj2⟩ := hall
      exact ih j hj (by omega) hj2
end Go.Proofs.Ytlokeimfmbgigaa.Pl

set_option linter.unusedVariables false
namespace Go.Proofs.Ytlokeimfmbgigaa.Bk
open Go.RowKit Go.Shelf Go.Proofs.YtlokeimfmbgigaaW.PrintWords Go.Proofs.YtlokeimfmbgigaaW.PrintLast Go.Proofs.YtlokeimfmbgigaaW.PrintMore
open Go.Proofs.Ytlokeimfmbgigaa.Ref Go.Proofs.Ytlokeimfmbgigaa.Pl Go.Proofs.Ytlokeimfmbgigaa.Qs Go.Proofs.Ytlokeimfmbgigaa.Rg

theorem run_append_zero {P : Program} (w : World) (t ty e : TypeId) (i : TypeInfo) (ht : P.underlying t = some (.slice e)) (hi : P.info? e = some i) (ao : Option Addr) (n cap : Nat) (h : n ≤ cap) (A : Option Addr) (c : Nat) :
    (Builtin.append_ #[t, t] ty #[.slice ao n cap, .slice A 0 c]).run P w = .ok (.slice ao n cap) w := by
  cases ao <;> cases A <;> simp [Builtin.append_, run_underlying ht, sizeOf, typeInfo, hi, Builtin.lenOf, Builtin.firstCells, h, storeCells, loadCells, loadCellsFrom, Result.andThen]
theorem natsV_len (ks : List Nat) : (natsV ks).length = ks.length := by simp [natsV]
theorem natsV_one (ks : List Nat) : ∀ u ∈ natsV ks, u.oneCell' = true := by
  intro u hu
  obtain ⟨k, _, rfl⟩ := List.mem_map.1 hu
  rfl
/-- append(x, y...), x a row of the call's own, y one that may be empty. -/
theorem run_append_row {P : Program} (w : World) (t ty e : TypeId) (i : TypeInfo) (z : Value) (bytes : Nat) (ht : P.underlying t = some (.slice e)) (hi : P.info? e = some i) (hz : i.zero = some z) (hs : i.size = 1) (hby : i.bytes = bytes) (hzs : z.cells.size = 1)
    (base base' g k cap m : Nat) (vx : Value) (xs news : List Value) (hown : w.ownsRow base e 1 (.slice (some ⟨g, 0, none⟩) k cap) k xs) (hx : w.ownsRow base' e 1 vx m news) (h1 : ∀ u ∈ news, u.oneCell' = true) (hk : 0 < k) (b1 : k + m ≤ maxLen) (b2 : (k + m) * bytes ≤ 140737488355328) (b3 : base ≤ w.heap.size) :
    ∃ v' w', (Builtin.append_ #[t, t] ty #[.slice (some ⟨g, 0, none⟩) k cap, vx]).run P w = .ok v' w' ∧ w'.ownsRow base e 1 v' (k + m) (xs ++ news) ∧ w.grownBy w' (some g) := by
  by_cases hm : m = 0
  · subst hm
    have hn : news = [] := List.eq_nil_of_length_eq_zero (by have := hx.1; omega)
    subst hn
    have hcap : k ≤ cap := by
      rcases hown.2 with ⟨h, _⟩ | ⟨g', cap', cur, h, _, _, h2, _⟩
      · cases h
      · simp only [Value.slice.injEq] at h; omega
    obtain ⟨A, c, rfl⟩ := own_slice hx
    refine ⟨_, w, run_append_zero w t ty e i ht hi _ k cap hcap A c, ?_, ⟨rfl, rfl, rfl, Nat.le_refl _, fun _ _ _ => rfl⟩⟩
    rw [Nat.add_zero, List.append_nil]
    exact hown
  · obtain ⟨gs, cs, rfl, _, _⟩ := hx.form (by omega)
    obtain ⟨v', w', hr, r1, r2, _⟩ := run_append_own (P := P) w base t ty e i z 1 bytes ht hi hz hs hby hzs (by decide) _ k xs hown ⟨gs, 0, none⟩ m cs news (by have := hx.1; omega) (fun j u hu => by
      have hj : j < m * 1 := by have := (List.getElem?_eq_some_iff.1 hu).1; have := hx.1; omega
      rw [add_plain, hx.cellAt j hj]; exact hu) h1 b1 b2 b3
    exact ⟨v', w', hr, r1, r2⟩
theorem wpListIn_append_row {F : Fence} {n : Nat} {P : Program} (w : World) {ops : Array Oper} {rest : List Oper} {o : Oper} {a : Act} {Q : Exit → Act → World → Prop}
    (hg : o.guard = none) (s x : Operand) (t : TypeId) (hop : o.op = Op.call { callee := Callee.builtin Builtin.append, args := #[s, x], argTypes := #[t, t] })
    (e : TypeId) (i : TypeInfo) (z : Value) (bytes : Nat) (ht : P.underlying t = some (.slice e)) (hi : P.info? e = some i) (hz : i.zero = some z) (hsz : i.size = 1) (hby : i.bytes = bytes) (hzs : z.cells.size = 1)
    (base base' g k cap m : Nat) (vx : Value) (xs news : List Value) (hs : a.eval s = .slice (some ⟨g, 0, none⟩) k cap) (hxv : a.eval x = vx) (hown : w.ownsRow base e 1 (.slice (some ⟨g, 0, none⟩) k cap) k xs) (hx : w.ownsRow base' e 1 vx m news) (h1 : ∀ u ∈ news, u.oneCell' = true) (hk : 0 < k) (b1 : k + m ≤ maxLen) (b2 : (k + m) * bytes ≤ 140737488355328) (b3 : base ≤ w.heap.size)
    (hK : ∀ v' w', w'.ownsRow base e 1 v' (k + m) (xs ++ news) → w.grownBy w' (some g) → wpListIn F n P ops Q rest (a.put o.dst v') w') :
    wpListIn F n P ops Q (o :: rest) a w := by
  refine wpListIn_plain hg fun K hK' => ?_
  obtain ⟨v', w', hrun, r1, r2⟩ := run_append_row (P := P) w t o.type e i z bytes ht hi hz hsz hby hzs base base' g k cap m vx xs news hown hx h1 hk b1 b2 b3
  unfold Oper.wpIn
  refine ⟨?_, ?_⟩
  · simp [Oper.about, hop, resolve, Target.leads, Sem.run_pure]
  · rw [Oper.semAt_plain F _ _ (by rw [hop]; intro c hc'; cases hc')]
    simp [execOp, hop, resolve, invoke, builtin, hs, hxv, hrun, Result.andThen]
    exact hK' _ _ (hK v' w' r1 r2)
theorem cycle_results (tmps : Array Value) (W : World) (g1 g2 : Nat) (v : Value) (b : Bool) (h2 : tmps.getD 2 undef = .pointer (some ⟨g1, 0, none⟩)) (h3 : tmps.getD 3 undef = .pointer (some ⟨g2, 0, none⟩))
    (hp : W.cell? ⟨g1, 0, none⟩ = some v) (hq : W.cell? ⟨g2, 0, none⟩ = some (.bool b)) : (results Try.f25 tmps).run Try.prog W = .ok (.tuple #[v, .bool b]) W := by
  have hr : Try.f25.results = #[.cell 2 22, .cell 3 4] := rfl
  simp only [Array.getD_eq_getD_getElem?] at h2 h3
  simp [results, hr, go_sem, h2, h3, hp, hq]
end Go.Proofs.Ytlokeimfmbgigaa.Bk

set_option linter.unusedVariables false
namespace Go.Proofs.Ytlokeimfmbgigaa.Bk
open Go.RowKit Go.Shelf Go.Proofs.YtlokeimfmbgigaaW.PrintWords Go.Proofs.YtlokeimfmbgigaaW.PrintLast Go.Proofs.YtlokeimfmbgigaaW.PrintMore
open Go.Proofs.Ytlokeimfmbgigaa.Ref Go.Proofs.Ytlokeimfmbgigaa.Pl Go.Proofs.Ytlokeimfmbgigaa.Qs Go.Proofs.Ytlokeimfmbgigaa.Rg
attribute [local go_sem] Oper.semAt_some

theorem chainK_len (l : List S35) (t m i : Nat) (s : Int) : (chainK l t m i s).length = m := by
  induction m generalizing i s with
  | zero => rfl
  | succ m ih => simp only [chainK, List.length_cons, ih]
theorem wide_fn (f : FuncId) : Fence.wide.fn f = True := rfl
attribute [local go_sem] wide_fn
/-- The boxes of Cycle: the bounds, the two results. -/
def By (W : World) (S : Nat) (n : Int) (sl v : Value) (b : Bool) : Prop :=
  W.heap[S]? = some (.cells #[.int .i64 n, sl] 30 (0, 0)) ∧ W.heap[S + 1]? = some (.cells #[v] 22 (0, 0)) ∧ W.heap[S + 1 + 1]? = some (.cells #[.bool b] 4 (0, 0))
theorem By.below {W W' : World} {S : Nat} {n : Int} {sl v : Value} {b : Bool} (h : By W S n sl v b) (hb : Below W.heap.size W W') : By W' S n sl v b := ⟨blk_below h.1 hb, blk_below h.2.1 hb, blk_below h.2.2 hb⟩
theorem By.put {W : World} {S : Nat} {n : Int} {sl v : Value} {b : Bool} (h : By W S n sl v b) (v' : Value) (b' : Bool) : By ((W.setCell ⟨S + 1, 0, none⟩ v').setCell ⟨S + 1 + 1, 0, none⟩ (.bool b')) S n sl v' b' :=
  ⟨blk_far (blk_far h.1 (p := ⟨S + 1, 0, none⟩) (by simp) _) (p := ⟨S + 1 + 1, 0, none⟩) (by simp; omega) _, blk_far (blk_put h.2.1 0 _ rfl) (p := ⟨S + 1 + 1, 0, none⟩) (by simp) _, blk_put (blk_far h.2.2 (p := ⟨S + 1, 0, none⟩) (by simp) _) 0 _ rfl⟩
theorem By.turned {A B : World} {S : Nat} {n : Int} {sl v : Value} {b : Bool} {B0 : Nat} (h : By A S n sl v b) (hT : TurnedL Nobody B0 A B) : By B S n sl v b := ⟨hT.cells h.1 (fun h => h), hT.cells h.2.1 (fun h => h), hT.cells h.2.2 (fun h => h)⟩
theorem keeps_below {B0 : Nat} {X Y : World} (h : Below X.heap.size X Y) : KeepsFrom B0 X Y := ⟨h.size, fun k o _ ho _ => blk_below ho h⟩
theorem By.start (w : World) (n : Int) (sl : Value) : By (((w.alloc (.cells #[.int .i64 n, sl] 30)).alloc (.cells #[.slice none 0 0] 22)).alloc (.cells #[.bool false] 4)) w.heap.size n sl (.slice none 0 0) false ∧
    Below w.heap.size w (((w.alloc (.cells #[.int .i64 n, sl] 30)).alloc (.cells #[.slice none 0 0] 22)).alloc (.cells #[.bool false] 4)) := by
  refine ⟨⟨blk_alloc (blk_alloc (blk_new w _) _) _, ?_, ?_⟩, below_alloc (below_alloc (below_alloc (Below.refl _ _) _) _) _⟩
  · have := blk_alloc (blk_new (w.alloc (.cells #[.int .i64 n, sl] 30)) (.cells #[.slice none 0 0] 22)) (.cells #[.bool false] 4)
    rwa [World.size_alloc] at this
  · have := blk_new ((w.alloc (.cells #[.int .i64 n, sl] 30)).alloc (.cells #[.slice none 0 0] 22)) (.cells #[.bool false] 4)
    rwa [World.size_alloc, World.size_alloc] at this
set_option maxHeartbeats 4000000 in
set_option maxRecDepth 100000 in
theorem cycle_calls (n : Int) (l : List S35) (A : Option Addr) (c : Nat) (w : World) (hl : Kd.C k35 w A l.length l) :
    Calls Try.prog 25 #[.agg #[.int .i64 n, .slice A l.length c]] w (ListRes (cycleB n l) (cycK l) w) := by
  obtain ⟨hs1, hs2⟩ := By.start w n (.slice A l.length c)
  have F := Aside0.mk (And.intro hl (And.intro hs1 hs2))
  refine (callsIn_wide (n := 3)).1 ?_
  refine callsIn_of_wp_marks Try.func25 rfl trivial ?_ rfl
  simp only [Try.ntmps25, List.size_toArray, List.length_cons, List.length_nil, Nat.reduceAdd, Nat.reduceSub, Array.replicate_succ, Array.replicate_zero, List.push_toArray, List.append_toArray, List.nil_append, List.cons_append]
  have k0 : (((w.alloc (.cells #[.int .i64 n, .slice A l.length c] 30)).alloc (.cells #[.slice none 0 0] 22)).alloc (.cells #[.bool false] 4)).cell? ⟨w.heap.size, 0, none⟩ = some (.int .i64 n) := (blk_cell F.out.2.1.1 0).trans rfl
  have k1 : (((w.alloc (.cells #[.int .i64 n, .slice A l.length c] 30)).alloc (.cells #[.slice none 0 0] 22)).alloc (.cells #[.bool false] 4)).cell? ⟨w.heap.size, 1, none⟩ = some (.slice A l.length c) := (blk_cell F.out.2.1.1 1).trans rfl
  clear hl hs1 hs2
  gi_wp2_with fail
  refine (callsIn_wide.2 (valid_calls n l A c _ (Kd.C_below F.out.1 F.out.2.2))).mono ?_
  rintro e w1 ⟨rfl, h⟩
  replace F := Aside0.mk (And.intro F.out.1 (And.intro (F.out.2.1.below h) (below_step F.out.2.2 h)))
  clear k0 k1 h
  cases hv : validB n l with
  | false =>
    have HV := Aside0.mk (show cycleB n l = false by unfold cycleB; rw [hv]; rfl)
    have r1 : w1.cell? ⟨w.heap.size + 1, 0, none⟩ = some (.slice none 0 0) := (blk_cell F.out.2.1.2.1 0).trans rfl
    have r2 : w1.cell? ⟨w.heap.size + 1 + 1, 0, none⟩ = some (.bool false) := (blk_cell F.out.2.1.2.2 0).trans rfl
    have f1 := blk_frozen F.out.2.1.2.1 0
    have f2 := blk_frozen F.out.2.1.2.2 0
    clear hv
    gi_wp2_with fail
    refine ⟨_, cycle_results _ _ _ _ (.slice none 0 0) false rfl rfl ((blk_cell (F.out.2.1.put (.slice none 0 0) false).2.1 0).trans rfl) ((blk_cell (F.out.2.1.put (.slice none 0 0) false).2.2 0).trans rfl), ?_⟩
    exact ⟨.slice none 0 0, by rw [HV.out], (fun h => absurd (HV.out.symm.trans h) (by decide)), fun _ => rfl, (F.out.2.2.setCell (p := ⟨w.heap.size + 1, 0, none⟩) (by simp) _).setCell (p := ⟨w.heap.size + 1 + 1, 0, none⟩) (by simp; omega) _⟩
  | true =>
    obtain ⟨N, hN⟩ : ∃ N : Nat, n = N := ⟨n.toNat, by have := valid_n hv; omega⟩
    subst hN
    have hn16 : N ≤ 16 := by have := valid_n hv; omega
    have HVV := Aside0.mk hv
    have HCB := Aside0.mk (show cycleB N l = !fineB N l by unfold cycleB; rw [hv, Bool.true_and, Int.toNat_natCast])
    have k0 : w1.cell? ⟨w.heap.size, 0, none⟩ = some (.int .i64 N) := (blk_cell F.out.2.1.1 0).trans rfl
    have k1 : w1.cell? ⟨w.heap.size, 1, none⟩ = some (.slice A l.length c) := (blk_cell F.out.2.1.1 1).trans rfl
    clear hv
    gi_wp2_with fail
    refine (callsIn_wide.2 (distances_calls N l HVV.out A c _ (Kd.C_below F.out.1 F.out.2.2))).mono ?_
    rintro e w3 ⟨v, rfl, hT, hF, h⟩
    replace F := Aside0.mk (And.intro F.out.1 (And.intro (F.out.2.1.below h) (below_step F.out.2.2 h)))
    clear k0 k1 h hT hF
    cases hfi : fineB N l with
    | true =>
      have HV := Aside0.mk (show cycleB N l = false by rw [HCB.out, hfi]; rfl)
      have r1 : w3.cell? ⟨w.heap.size + 1, 0, none⟩ = some (.slice none 0 0) := (blk_cell F.out.2.1.2.1 0).trans rfl
      have r2 : w3.cell? ⟨w.heap.size + 1 + 1, 0, none⟩ = some (.bool false) := (blk_cell F.out.2.1.2.2 0).trans rfl
      have f1 := blk_frozen F.out.2.1.2.1 0
      have f2 := blk_frozen F.out.2.1.2.2 0
      clear hfi
      gi_wp2_with fail
      refine ⟨_, cycle_results _ _ _ _ (.slice none 0 0) false rfl rfl ((blk_cell (F.out.2.1.put (.slice none 0 0) false).2.1 0).trans rfl) ((blk_cell (F.out.2.1.put (.slice none 0 0) false).2.2 0).trans rfl), ?_⟩
      exact ⟨.slice none 0 0, by rw [HV.out], (fun h => absurd (HV.out.symm.trans h) (by decide)), fun _ => rfl, (F.out.2.2.setCell (p := ⟨w.heap.size + 1, 0, none⟩) (by simp) _).setCell (p := ⟨w.heap.size + 1 + 1, 0, none⟩) (by simp; omega) _⟩
    | false =>
      have HV := Aside0.mk (show cycleB N l = true by rw [HCB.out, hfi]; rfl)
      obtain ⟨m0, e1, e2, e3⟩ := cyc_ex HVV.out hfi
      have HM0 := Aside0.mk (And.intro e1 (And.intro e2 e3))
      have hYb := (Below.refl _ w3).alloc (Nat.le_refl _) (.cells #[.slice none 0 0] 66)
      have k0 : (w3.alloc (.cells #[.slice none 0 0] 66)).cell? ⟨w.heap.size, 0, none⟩ = some (.int .i64 N) := pw_cell_below hYb ((blk_cell F.out.2.1.1 0).trans rfl)
      have k1 : (w3.alloc (.cells #[.slice none 0 0] 66)).cell? ⟨w.heap.size, 1, none⟩ = some (.slice A l.length c) := pw_cell_below hYb ((blk_cell F.out.2.1.1 1).trans rfl)
      have HYB := Aside0.mk hYb
      clear hYb hfi e1 e2 e3
      gi_wp2_with fail
      refine (callsIn_wide.2 (walks_calls N A l.length c _)).mono ?_
      rintro e w4 ⟨rfl, rfl⟩
      gi_wp2_with fail
      have hY2 := (Below.refl _ (w3.alloc (.cells #[.slice none 0 0] 66))).alloc (Nat.le_refl _) (.cells #[.int .i64 (N : Int), .slice A l.length c] 30)
      have b0 := blk_below (blk_new w3 (.cells #[.slice none 0 0] 66)) hY2
      have b1 : ((w3.alloc (.cells #[.slice none 0 0] 66)).alloc (.cells #[.int .i64 (N : Int), .slice A l.length c] 30)).heap[w3.heap.size + 1]? = some (.cells #[.int .i64 (N : Int), .slice A l.length c] 30 (0, 0)) := by
        have := blk_new (w3.alloc (.cells #[.slice none 0 0] 66)) (.cells #[.int .i64 (N : Int), .slice A l.length c] 30)
        rwa [World.size_alloc] at this
      have hB5 := below_step HYB.out hY2
      have hW5 := below_step F.out.2.2 hB5
      have hBy := F.out.2.1.below hB5
      have hsz5 : ((w3.alloc (.cells #[.slice none 0 0] 66)).alloc (.cells #[.int .i64 (N : Int), .slice A l.length c] 30)).heap.size = w3.heap.size + 2 := by simp
      have HSX : w.heap.size + 3 ≤ w3.heap.size := by have h1 := blk_lt F.out.2.1.2.2; omega
      obtain ⟨bw, hbw⟩ : ∃ bw, bw = w3.heap.size := ⟨_, rfl⟩
      rw [← hbw] at b0 b1 hsz5 HSX ⊢
      generalize (w3.alloc (.cells #[.slice none 0 0] 66)).alloc (.cells #[.int .i64 (N : Int), .slice A l.length c] 30) = W5 at b0 b1 hB5 hW5 hBy hsz5 hY2 ⊢
      clear k0 k1 hY2
      have FS := Aside0.mk (And.intro hBy hW5)
      have HI0 := Aside0.mk (WI.start (l := l) (n := N) b0 (by omega))
      have HB1 := Aside0.mk b1
      have HSZ := Aside0.mk (And.intro hsz5 HSX)
      have HLC := Aside0.mk F.out.1
      clear b0 b1 hB5 hW5 hBy hsz5 HSX HYB F hbw
      refine wpIn_endless (Tab := WTab w (bw + 1) N l A c) rfl (by omega) (gf := 59) (lb := #[.pointer (some ⟨bw + 1, 0, none⟩)]) rfl trivial (enters_of Try.func59 (by kernel_rfl) rfl) 17 (by omega) ?hseq
        (fun m W => WI W5 bw N l m W ∧ ∀ j, j < m → anyC l j = false)
        (fun cc W => cc = .ret ∧ ∃ v, By W w.heap.size N (.slice A l.length c) v true ∧ W.ownsRow (w.heap.size + 3) 3 1 v (cycK l).length (natsV (cycK l)) ∧ Below w.heap.size w W) (fun m A B h hT => ⟨h.1.turned (by have := HSZ.out.1; omega) hT, h.2⟩) (fun cc A B h hT => ?hX)
        (fun m v A B h hT => h.turned (by have := HSZ.out; omega) hT) (fun m W h => ?hN) ⟨HI0.out, fun j hj => absurd hj (Nat.not_lt_zero j)⟩ ?round ?stop
      case hX =>
        obtain ⟨hc, v, h1, h2, h3⟩ := h
        refine ⟨hc, v, h1.turned hT, own_move h2 (fun k hk => ?_), ⟨hT.os.trans h3.os, hT.tape.trans h3.tape, hT.output.trans h3.output, Nat.le_trans h3.size hT.size, fun k hk => (hT.block k (by have := h3.size; omega) (fun h => h) (.inl (by have := HSZ.out; omega))).trans (h3.block k hk)⟩⟩
        obtain ⟨cells, hcc⟩ := own_typed h2 k hk
        exact (hT.cells hcc (fun h => h)).trans hcc.symm
      case hN =>
        rcases Nat.lt_or_ge m0 m with hlt | hge
        · have := h.2 m0 hlt; have h2 := HM0.out.2.1; rw [this] at h2; cases h2
        · have := HM0.out.1; omega
      case hseq =>
        intro W hW
        refine walks_seq 2 N l HVV.out A c (bw + 1) w W ((hW.block _ (by have := HSZ.out.1; omega) (fun h => h)).trans HB1.out) HLC.out ?_
        exact ⟨hW.os.trans FS.out.2.os, hW.tape.trans FS.out.2.tape, hW.output.trans FS.out.2.output, Nat.le_trans FS.out.2.size hW.size, fun k hk => (hW.block k (by have := HSZ.out; omega) (fun h => h)).trans (FS.out.2.block k hk)⟩
      case round =>
        intro y m v W hy hr hI hT
        gi_wp2_with fail
        refine ⟨KeepsFrom.refl _ _, hT, ?_⟩
        intro W2 hTl hsz
        obtain ⟨⟨vw, tabs, h1, h2, h3⟩, h4, h5⟩ := hI.1.turned (by have := HSZ.out.1; omega) hTl
        have hT2 := hT.turned (by have := HSZ.out; omega) hTl
        have hlow := hI.2
        obtain ⟨g', rows', caps', hv', hM'⟩ := hT2.2.2
        subst hv'
        have HP := Aside0.mk (fun (W4 : World) (gg cap : Nat) (hg : (W2.alloc (.cells #[.slice (some ⟨g', 0, none⟩) N N] 38)).grownBy W4 vw.ownBlock) (hown : W4.ownsRow (bw + 2) 38 1 (.slice (some ⟨gg, 0, none⟩) (m + 1) cap) (m + 1) (tabs ++ [.slice (some ⟨g', 0, none⟩) N N])) => WI.push (q := 0) (by have := HSZ.out.2; omega) hT2 h1 h2 h3 h4 h5 hg hown)
        have HOWN := Aside0.mk h2
        have HLOW := Aside0.mk hlow
        have HW2 := Aside0.mk (And.intro h1 h5)
        have kW : W2.cell? ⟨bw, 0, none⟩ = some vw := (blk_cell h1 0).trans rfl
        obtain ⟨i38, hi38, hz0, hz1, hz2⟩ := info_parts info38
        have HY := Aside0.mk (And.intro hi38 (And.intro hz0 (And.intro hz1 hz2)))
        have HMN := Aside0.mk (show m ≤ 16 from by
          rcases Nat.lt_or_ge m0 m with hlt | hge
          · have := hlow m0 hlt; have h2 := HM0.out.2.1; rw [this] at h2; cases h2
          · have := HM0.out.1; omega)
        clear hy hr hI hT hTl hsz h1 h2 h3 h4 h5 hT2 hlow hi38 hz0 hz1 hz2 hM'
        gi_upto_region 10 with (gi_at_builtin; refine wpListIn_append_own _ rfl _ _ 66 rfl (bw + 2) 38 i38 (.slice none 0 0) 1 24 Try.underlying66 HY.out.1 HY.out.2.1 HY.out.2.2.1 HY.out.2.2.2 rfl (by decide) vw m tabs rfl (World.ownsRow.alloc HOWN.out _) ⟨W2.heap.size, 0, none⟩ 1 1 [.slice (some ⟨g', 0, none⟩) N N] rfl rfl (World.news_of_block (cs := #[.slice (some ⟨g', 0, none⟩) N N]) (t := 38) (fr := (0, 0)) (heap_alloc_new W2 _)) (by simp [Value.oneCell']) (by unfold maxLen; have := HMN.out; omega) (by have := HMN.out; omega) (by have := HW2.out.2; simp; omega) ?_; intro v4 W4 hown4 hgrow4 _; obtain ⟨gg, cap, rfl, _⟩ := hown4.form (by omega); have kW4 : W4.cell? ⟨bw, 0, none⟩ = some vw := (blk_cell (blk_grown (blk_alloc HW2.out.1 _) hgrow4 (fun e => by have := own_base HOWN.out _ e.symm; omega)) 0).trans rfl; have fW4 := blk_frozen (blk_grown (blk_alloc HW2.out.1 _) hgrow4 (fun e => by have := own_base HOWN.out _ e.symm; omega)) 0; have HPP := Aside0.mk (HP.out W4 gg cap hgrow4 hown4); clear hown4 hgrow4)
        clear kW4 fW4 kW
        generalize W4.setCell ⟨bw, 0, none⟩ (.slice (some ⟨gg, 0, none⟩) (m + 1) cap) = Y at HPP ⊢
        obtain ⟨gw, cw, hbY, hTabs⟩ := (HPP.out 0).1.tabs
        have hYY : ∀ k, k < bw → Y.heap[k]? = W5.heap[k]? := (HPP.out 0).1.2.1.block
        have HYS := Aside0.mk (And.intro hYY (show bw + 2 ≤ Y.heap.size from (HPP.out 0).1.2.2))
        have HTABS := Aside0.mk (show Tabs Y gw (m + 1) N l from hTabs)
        have HBY := Aside0.mk (show Y.heap[bw]? = some (.cells #[.slice (some ⟨gw, 0, none⟩) (m + 1) cw] 66 (0, 0)) from hbY)
        have HBYS := Aside0.mk (show Y.heap[w.heap.size]? = some (.cells #[.int .i64 (N : Int), .slice A l.length c] 30 (0, 0)) from (hYY _ (by have := HSZ.out.2; omega)).trans FS.out.1.1)
        have kY : Y.cell? ⟨bw, 0, none⟩ = some (.slice (some ⟨gw, 0, none⟩) (m + 1) cw) := (blk_cell HBY.out 0).trans rfl
        have k1 : Y.cell? ⟨w.heap.size, 1, none⟩ = some (.slice A l.length c) := (blk_cell HBYS.out 1).trans rfl
        have hm17 : (m : Int) ≤ 16 := by have := HMN.out; omega
        clear hbY hTabs hYY
        gi_wp2_with fail
        clear kY k1
        gi_loopg [33] l.length (fun kq v33 wr => ∃ j : Nat, v33 = .int .i64 (j : Int) ∧ Aside0 (j + kq = l.length) ∧ Aside0 (Below Y.heap.size Y wr) ∧ Aside0 (∀ i, i < j → 0 < m → cycB l m (l.getD i z35) = false))
        case atStart => exact ⟨0, rfl, ⟨by omega⟩, ⟨Below.refl _ _⟩, ⟨fun i hi => absurd hi (Nat.not_lt_zero i)⟩⟩
        case round =>
          obtain ⟨j, rfl, HK, HB, HJ⟩ := hrel
          by_cases hj : j < l.length
          · have hjb : decide ((j : Int) < (l.length : Int)) = true := decide_eq_true (by omega)
            have q1 := eq_true (show (j : Int) < (l.length : Int) by omega)
            have q2 := eq_true (show (0 : Int) ≤ (j : Int) by omega)
            obtain ⟨f, t, q, hx, hf, ht, hq⟩ := bound_at HVV.out hj
            have HWY := Aside0.mk (show Below w.heap.size w wr from ⟨HB.out.os.trans ((HPP.out 0).1.2.1.os.trans FS.out.2.os), HB.out.tape.trans ((HPP.out 0).1.2.1.tape.trans FS.out.2.tape), HB.out.output.trans ((HPP.out 0).1.2.1.output.trans FS.out.2.output), Nat.le_trans FS.out.2.size (Nat.le_trans (HPP.out 0).1.2.1.size HB.out.size), fun k hk => (HB.out.block k (by have := HYS.out.2; have := HSZ.out.2; omega)).trans ((HYS.out.1 k (by have := HSZ.out.2; omega)).trans (FS.out.2.block k hk))⟩)
            obtain ⟨ad, rfl, c0, c1, c2⟩ := cells_at (Kd.C_below HLC.out HWY.out) hj hx
            have HX := Aside0.mk (And.intro hx (And.intro hf (And.intro ht hq)))
            have HJL := Aside0.mk hj
            clear hx hf ht hq hj
            gi_upto_region 14 with (fail)
            have hXb := (Below.refl _ wr).alloc (Nat.le_refl _) (.cells #[.int .i64 (f : Int), .int .i64 (t : Int), .int .i64 q] 35)
            have hXn := blk_new wr (.cells #[.int .i64 (f : Int), .int .i64 (t : Int), .int .i64 q] 35)
            obtain ⟨S, hS⟩ : ∃ S, S = wr.heap.size := ⟨_, rfl⟩
            rw [← hS] at hXn ⊢
            have hXs : (wr.alloc (.cells #[.int .i64 (f : Int), .int .i64 (t : Int), .int .i64 q] 35)).heap.size = S + 1 := by rw [hS]; simp
            generalize wr.alloc (.cells #[.int .i64 (f : Int), .int .i64 (t : Int), .int .i64 q] 35) = X at hXb hXn hXs ⊢
            have HXW := Aside0.mk (below_step HWY.out hXb)
            have HXY := Aside0.mk (below_step HB.out hXb)
            have HXS := Aside0.mk hXs
            have HXN := Aside0.mk hXn
            clear hXb c0 c1 c2 q1 q2 hS hXn hXs
            have x0 : X.cell? ⟨S, 0, none⟩ = some (.int .i64 f) := (blk_cell HXN.out 0).trans rfl
            have x1 : X.cell? ⟨S, 1, none⟩ = some (.int .i64 t) := (blk_cell HXN.out 1).trans rfl
            have x2 : X.cell? ⟨S, 2, none⟩ = some (.int .i64 q) := (blk_cell HXN.out 2).trans rfl
            have hj61 : (j : Int) ≤ 61 := by have := HJL.out; have := (small_valid HVV.out).1; omega
            cases m with
            | zero =>
              have hz : decide ((0 : Int) < ((0 : Nat) : Int)) = false := rfl
              refine wpIn_region_quietR (by kernel_rfl) (by kernel_rfl) (by kernel_rfl) ?_
              repeat (gi_big_quiet_step (fail))
              refine wpQuietIn_nil ?_
              intro _ hw'
              obtain ⟨nq, rfl⟩ := hw'
              gi_wp2_with fail
              gi_roundg (l.length - (j + 1))
              case measure => have := HK.out; have := HJL.out; omega
              case rel => exact ⟨j + 1, by go_num, ⟨by have := HK.out; have := HJL.out; omega⟩, ⟨pw_below_drewN HXY.out nq⟩, ⟨fun i hi h0 => absurd h0 (Nat.lt_irrefl 0)⟩⟩
            | succ m1 =>
              have hz : decide ((0 : Int) < ((m1 + 1 : Nat) : Int)) = true := decide_eq_true (by omega)
              have kY : X.cell? ⟨bw, 0, none⟩ = some (.slice (some ⟨gw, 0, none⟩) (m1 + 1 + 1) cw) := (blk_cell (blk_below HBY.out HXY.out) 0).trans rfl
              obtain ⟨ga, ra, ca, t0, t1, t2⟩ := (HTABS.out.below HXY.out).at (m := m1) (by omega) HX.out.2.2.1 HX.out.2.1
              have HSM := Aside0.mk (walk_small (bds_small HVV.out) m1 (by have := HMN.out; omega) t f)
              have HSQ := Aside0.mk (show SmF q from .inr (by have := HX.out.2.2.2; omega))
              have HCB2 := Aside0.mk (show cycB l (m1 + 1) (l.getD j z35) = decide (plusI q (walkI (bds l) m1 t f) < 0) by rw [HX.out.1]; unfold cycB; simp only [Int.toNat_natCast, Nat.add_sub_cancel])
              have q1 := eq_true (show (m1 : Int) < ((m1 + 1 + 1 : Nat) : Int) by omega)
              have q2 := eq_true (show (0 : Int) ≤ (m1 : Int) by omega)
              have q3 := eq_true (show (t : Int) < (N : Int) by have := HX.out.2.2.1; omega)
              have q4 := eq_true (show (0 : Int) ≤ (t : Int) by omega)
              have q5 := eq_true (show (f : Int) < (N : Int) by have := HX.out.2.1; omega)
              have q6 := eq_true (show (0 : Int) ≤ (f : Int) by omega)
              generalize walkI (bds l) m1 t f = tb at t2 HSM HCB2
              obtain ⟨d, hd⟩ : ∃ d, d = plusI q tb := ⟨_, rfl⟩
              by_cases hneg : d < 0
              · have hnb : decide (d < 0) = true := decide_eq_true hneg
                have HHIT := Aside0.mk (show cycB l (m1 + 1) (l.getD j z35) = true by rw [HCB2.out, ← hd]; exact hnb)
                have HD := Aside0.mk hd
                clear hneg hd
                refine wpIn_region_quietR (by kernel_rfl) (by kernel_rfl) (by kernel_rfl) ?_
                repeat (gi_big_quiet_step ((exact CallsIn.inRound y (callsIn_wide.2 (Calls.quiet_of_same (HD.out ▸ plus_calls q tb HSQ.out HSM.out _))))))
                refine wpQuietIn_nil ?_
                intro _ hw'
                obtain ⟨nq, rfl⟩ := hw'
                have HXN2 := Aside0.mk (blk_drewN HXN.out nq)
                have HXY2 := Aside0.mk (pw_below_drewN HXY.out nq)
                have HXW2 := Aside0.mk (pw_below_drewN HXW.out nq)
                have HXS2 := Aside0.mk (show (X.drewN nq).heap.size = S + 1 from HXS.out)
                clear kY t0 t1 t2 x0 x1 x2 hnb q1 q2 q3 q4 q5 q6
                generalize X.drewN nq = X' at HXN2 HXY2 HXW2 HXS2 ⊢
                have hZ := (Below.refl _ X').alloc (Nat.le_refl _) (.cells #[.int .i64 (j : Int)] 3)
                have HZN := Aside0.mk (blk_new X' (.cells #[.int .i64 (j : Int)] 3))
                have HZY := Aside0.mk (below_step HXY2.out hZ)
                have HZW := Aside0.mk (below_step HXW2.out hZ)
                have x0 : (X'.alloc (.cells #[.int .i64 (j : Int)] 3)).cell? ⟨S, 0, none⟩ = some (.int .i64 f) := (blk_cell (blk_below HXN2.out hZ) 0).trans rfl
                have x1 : (X'.alloc (.cells #[.int .i64 (j : Int)] 3)).cell? ⟨S, 1, none⟩ = some (.int .i64 t) := (blk_cell (blk_below HXN2.out hZ) 1).trans rfl
                have x2 : (X'.alloc (.cells #[.int .i64 (j : Int)] 3)).cell? ⟨S, 2, none⟩ = some (.int .i64 q) := (blk_cell (blk_below HXN2.out hZ) 2).trans rfl
                have kY : (X'.alloc (.cells #[.int .i64 (j : Int)] 3)).cell? ⟨bw, 0, none⟩ = some (.slice (some ⟨gw, 0, none⟩) (m1 + 1 + 1) cw) := (blk_cell (blk_below HBY.out HZY.out) 0).trans rfl
                have k0 : (X'.alloc (.cells #[.int .i64 (j : Int)] 3)).cell? ⟨w.heap.size, 0, none⟩ = some (.int .i64 N) := (blk_cell (blk_below HBYS.out HZY.out) 0).trans rfl
                have k1 : (X'.alloc (.cells #[.int .i64 (j : Int)] 3)).cell? ⟨w.heap.size, 1, none⟩ = some (.slice (some ad) l.length c) := (blk_cell (blk_below HBYS.out HZY.out) 1).trans rfl
                have HLE := Aside0.mk ((cycB_iff HVV.out (by have := HMN.out; omega) HJL.out HX.out.1).1 HHIT.out)
                have hqq : -1000000000 ≤ q ∧ q ≤ 1000000000 := HX.out.2.2.2
                have hq1 := hqq.1
                have hq2 := hqq.2
                have HZS := Aside0.mk (show (X'.alloc (.cells #[.int .i64 (j : Int)] 3)).heap.size = S + 1 + 1 by rw [World.size_alloc, HXS2.out])
                clear hZ hqq
                gi_wp2_with fail
                refine (CallsIn.inRound y (callsIn_wide.2 (chain_calls N l HVV.out (some ad) c gw (m1 + 1 + 1) cw f m1 t (-1 - q) _ (Kd.C_below HLC.out HZW.out) (HTABS.out.below HZY.out) (by omega) (by have := HMN.out; omega) HX.out.2.1 HX.out.2.2.1 (by omega) HLE.out))).mono ?_
                rintro e w9 ⟨v9, rfl, hown, hb9⟩
                have hks : cycK l = j :: chainK l f m1 t (-1 - q) := by
                  have hjm : l.findIdx (cycB l (m1 + 1)) = j := findIdx_is HJL.out HHIT.out (fun i hi => HJ.out i hi (by omega))
                  have hm0 : cycM l = m1 + 1 := cycM_is (by have := HMN.out; omega) (by
                    unfold anyC
                    rw [decide_eq_true (by omega : 0 < m1 + 1), Bool.true_and, List.any_eq_true]
                    refine ⟨l[j]'HJL.out, List.getElem_mem _, ?_⟩
                    have := HHIT.out
                    rwa [List.getD_eq_getElem?_getD, List.getElem?_eq_getElem HJL.out] at this) HLOW.out
                  unfold cycK cycL
                  rw [hm0, hjm, HX.out.1]
                  simp only [Int.toNat_natCast, Nat.add_sub_cancel]
                have hlen : (chainK l f m1 t (-1 - q)).length ≤ 100 := by rw [chainK_len]; have := HMN.out; omega
                have HKS := Aside0.mk hks
                have HLEN := Aside0.mk hlen
                have HO9 := Aside0.mk hown
                have HB9 := Aside0.mk hb9
                have HW9 := Aside0.mk (below_step HZW.out hb9)
                have HJN := Aside0.mk (blk_below HZN.out hb9)
                have hXS : X'.heap.size = S + 1 := HXS2.out
                have hbwS : bw + 2 ≤ S + 1 := by have := HYS.out.2; have := HXY2.out.size; omega
                have HSS := Aside0.mk (And.intro hXS hbwS)
                have hByS : ∀ k, k < bw → w9.heap[k]? = W5.heap[k]? := fun k hk => (hb9.block k (by rw [HZS.out]; omega)).trans ((HZY.out.block k (by have := HYS.out.2; omega)).trans (HYS.out.1 k hk))
                have HBYW := Aside0.mk (show By w9 w.heap.size N (.slice (some ad) l.length c) (.slice none 0 0) false from ⟨(hByS _ (by have := HSZ.out.2; omega)).trans FS.out.1.1, (hByS _ (by have := HSZ.out.2; omega)).trans FS.out.1.2.1, (hByS _ (by have := HSZ.out.2; omega)).trans FS.out.1.2.2⟩)
                have HW9S := Aside0.mk (show S + 1 + 1 ≤ w9.heap.size from by have := hb9.size; rw [HZS.out] at this; exact this)
                have hrow : w9.ownsRow (w.heap.size + 3) 3 1 (.slice (some ⟨X'.heap.size, 0, none⟩) 1 1) 1 [.int .i64 (j : Int)] :=
                  ⟨rfl, .inr ⟨X'.heap.size, 1, _, rfl, by have := HSZ.out.2; omega, HJN.out, Nat.le_refl _, by unfold maxLen; omega, rfl, rfl⟩⟩
                have HROW := Aside0.mk hrow
                obtain ⟨i3, hi3, hy0, hy1, hy2⟩ := info_parts info3
                have HY3 := Aside0.mk (And.intro hi3 (And.intro hy0 (And.intro hy1 hy2)))
                clear x0 x1 x2 kY k0 k1 hown hb9 hks hlen hXS hbwS hByS hrow hi3 hy0 hy1 hy2 hq1 hq2
                gi_wp2_with (gi_at_builtin; refine wpListIn_append_row _ rfl _ _ 22 rfl 3 i3 (.int .i64 0) 8 Try.underlying22 HY3.out.1 HY3.out.2.1 HY3.out.2.2.1 HY3.out.2.2.2 rfl (w.heap.size + 3) _ X'.heap.size 1 1 _ v9 _ _ rfl rfl HROW.out HO9.out (natsV_one _) (by decide) (by unfold maxLen; have := HLEN.out; omega) (by have := HLEN.out; omega) (by have := HW9S.out; have := HSS.out; have := HSZ.out.2; omega) ?_; intro v10 w10 hown10 hg10; obtain ⟨A10, c10, rfl⟩ := own_slice hown10; have HOW10 := Aside0.mk hown10; have HG10 := Aside0.mk hg10; have HBY10 := Aside0.mk (show By w10 w.heap.size N (.slice (some ad) l.length c) (.slice none 0 0) false from ⟨blk_grown HBYW.out.1 hg10 (fun e => by injection e; have := HSS.out; have := HSZ.out.2; omega), blk_grown HBYW.out.2.1 hg10 (fun e => by injection e; have := HSS.out; have := HSZ.out.2; omega), blk_grown HBYW.out.2.2 hg10 (fun e => by injection e; have := HSS.out; have := HSZ.out.2; omega)⟩); have r1 : w10.cell? ⟨w.heap.size + 1, 0, none⟩ = some (.slice none 0 0) := (blk_cell HBY10.out.2.1 0).trans rfl; have r2 : w10.cell? ⟨w.heap.size + 1 + 1, 0, none⟩ = some (.bool false) := (blk_cell HBY10.out.2.2 0).trans rfl; have f1 := blk_frozen HBY10.out.2.1 0; have f2 := blk_frozen HBY10.out.2.2 0; clear hown10 hg10)
                refine ⟨?_, rfl, _, HBY10.out.put _ true, ?_, ?_⟩
                · refine ((HPP.out 0).2.2 _ (by have := HSZ.out.1; omega)).trans ((keeps_below (below_step HZY.out HB9.out)).trans (KeepsFrom.trans (Y := w10) ⟨HG10.out.size, fun k o _ ho hc => ?_⟩ (((KeepsOthers.setCell _ _ _).trans (KeepsOthers.setCell _ _ _)).from _)))
                  refine (HG10.out.block k (blk_lt ho) (fun e => ?_)).trans ho
                  injection e with e
                  subst e
                  rw [HJN.out] at ho
                  cases ho
                  cases hc
                · rw [HKS.out]
                  refine own_move (w := w10) (by have := HOW10.out; rw [List.length_cons, Nat.add_comm (chainK l f m1 t (-1 - q)).length 1]; exact this) (fun k hk => ?_)
                  have := own_base HOW10.out k hk
                  exact (Below.heap_setCell _ _ _ k (by simp only; omega)).trans (Below.heap_setCell _ _ _ k (by simp only; omega))
                · have hb := HW9.out
                  have hb10 : Below w.heap.size w w10 := ⟨HG10.out.os.trans hb.os, HG10.out.tape.trans hb.tape, HG10.out.output.trans hb.output, Nat.le_trans hb.size HG10.out.size, fun k hk => (HG10.out.block k (by have := hb.size; omega) (fun e => by injection e; have := HSS.out; have := HSZ.out.2; omega)).trans (hb.block k hk)⟩
                  exact (hb10.setCell (p := ⟨w.heap.size + 1, 0, none⟩) (by simp) _).setCell (p := ⟨w.heap.size + 1 + 1, 0, none⟩) (by simp; omega) _
              · have hnb : decide (d < 0) = false := decide_eq_false hneg
                have HHIT := Aside0.mk (show cycB l (m1 + 1) (l.getD j z35) = false by rw [HCB2.out, ← hd]; exact hnb)
                have HD := Aside0.mk hd
                clear hneg hd
                refine wpIn_region_quietR (by kernel_rfl) (by kernel_rfl) (by kernel_rfl) ?_
                repeat (gi_big_quiet_step ((exact CallsIn.inRound y (callsIn_wide.2 (Calls.quiet_of_same (HD.out ▸ plus_calls q tb HSQ.out HSM.out _))))))
                refine wpQuietIn_nil ?_
                intro _ hw'
                obtain ⟨nq, rfl⟩ := hw'
                gi_wp2_with fail
                gi_roundg (l.length - (j + 1))
                case measure => have := HK.out; have := HJL.out; omega
                case rel =>
                  refine ⟨j + 1, by go_num, ⟨by have := HK.out; have := HJL.out; omega⟩, ⟨pw_below_drewN HXY.out nq⟩, ⟨fun i hi h0 => ?_⟩⟩
                  rcases Nat.lt_or_ge i j with hlt | hge
                  · exact HJ.out i hlt h0
                  · obtain rfl : i = j := by omega
                    exact HHIT.out
          · have hjb : decide ((j : Int) < (l.length : Int)) = false := decide_eq_false (by omega)
            have hjl : j = l.length := by have := HK.out; omega
            subst hjl
            gi_wp2_with fail
            refine ⟨((HPP.out 0).2.2 _ (by have := HSZ.out.1; omega)).trans (keeps_below HB.out), (HPP.out 0).2.1.turned (B0 := W5.heap.size) (by have := HSZ.out; omega) (TurnedL.of (Turned.below HB.out)), (HPP.out 0).1.turned (B0 := W5.heap.size) (by have := HSZ.out; omega) (TurnedL.of (Turned.below HB.out)), fun i hi => ?_⟩
            rcases Nat.lt_or_ge i m with hlt | hge
            · exact HLOW.out i hlt
            · obtain rfl : i = m := by omega
              unfold anyC
              by_cases h0 : 0 < i
              · rw [decide_eq_true h0, Bool.true_and, List.any_eq_false]
                intro x hx
                obtain ⟨k, hk, rfl⟩ := List.getElem_of_mem hx
                have := HJ.out k hk h0
                rw [List.getD_eq_getElem?_getD, List.getElem?_eq_getElem hk] at this
                simpa using this
              · rw [decide_eq_false h0, Bool.false_and]
      case stop =>
        rintro D cc W hD ⟨rfl, v, hBy, hown, hb⟩ hK
        have HBY := Aside0.mk hBy
        have HOW := Aside0.mk hown
        have HBB := Aside0.mk hb
        have HKD := Aside0.mk (And.intro hD hK)
        clear hBy hown hb hD hK
        gi_wp2_with fail
        refine ⟨by simp, .inl ⟨_, _, rfl, run_takeDeferred HKD.out.2, ?_⟩⟩
        have hDS : w.heap.size + 5 ≤ D := by have := HKD.out.1; have := HSZ.out; omega
        refine ⟨_, cycle_results _ _ _ _ v true rfl rfl ((blk_cell ((World.putObj_heap_other (by omega)).trans HBY.out.2.1) 0).trans rfl) ((blk_cell ((World.putObj_heap_other (by omega)).trans HBY.out.2.2) 0).trans rfl), ?_⟩
        refine ⟨v, by rw [HV.out], fun _ => own_move (own_weaken HOW.out (by omega)) (fun k hk => ?_), (fun h => absurd (HV.out.symm.trans h) (by decide)), ?_⟩
        · obtain ⟨cells, hc⟩ := own_typed HOW.out k hk
          refine World.putObj_heap_other (fun e => ?_)
          subst e
          rw [HKD.out.2] at hc
          cases hc
        · exact ⟨HBB.out.os, HBB.out.tape, HBB.out.output, by simpa using HBB.out.size, fun k hk => (World.putObj_heap_other (by omega)).trans (HBB.out.block k hk)⟩
end Go.Proofs.Ytlokeimfmbgigaa.Bk
