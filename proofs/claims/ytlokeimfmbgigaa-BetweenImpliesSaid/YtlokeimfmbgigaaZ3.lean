/- What distances, Close and Solve of package between return. -/
import Derived.Test.YtlokeimfmbgigaaZ2
import Derived.Deep.AppendLies
import Derived.Laws.MakeOwn
import Derived.Deep.DrawnRows
import Derived.Deep.RegionLaw
import Derived.IntWalk
import Derived.Laws.Small
import Derived.Laws.CopyOwn
import Derived.StillTailTactics
set_option linter.unusedVariables false
set_option linter.unusedSimpArgs false
set_option linter.unusedVariables false
namespace Go.Proofs.Ytlokeimfmbgigaa.Bk
open Go.RowKit Go.Shelf Go.Proofs.YtlokeimfmbgigaaW.PrintWords Go.Proofs.YtlokeimfmbgigaaW.PrintLast Go.Proofs.YtlokeimfmbgigaaW.PrintMore
open Go.Proofs.Ytlokeimfmbgigaa.Ref Go.Proofs.Ytlokeimfmbgigaa.Pl

/-- i rows are made, of row i its first k elements; v is row i's slice. -/
structure Sq (W : World) (base g n i : Nat) (v : Value) (k : Nat) (rows caps : Nat → Nat) (D : Ti) : Prop where
  outer : ∃ cur : Array Value, W.heap[g]? = some (.cells cur 22 (0, 0)) ∧ (∀ j, j < i → cur[j]? = some (.slice (some ⟨rows j, 0, none⟩) n (caps j))) ∧ (i < n → cur[i]? = some v) ∧ ∀ j, i < j → j < n → cur[j]? = some (.slice none 0 0)
  inner : ∀ j, j < i → ∃ cur : Array Value, W.heap[rows j]? = some (.cells cur 3 (0, 0)) ∧ ∀ k, k < n → cur[k]? = some (.int .i64 (D j k))
  gb : base ≤ g
  rb : ∀ j, j < i → base ≤ rows j
  inj : ∀ a b, a < i → b < i → rows a = rows b → a = b
  cap : ∀ j, j < i → n ≤ caps j
  own : W.ownsRow base 3 1 v k ((List.range k).map fun j => .int .i64 (D i j))
  far : ∀ j, j < i → v.ownBlock ≠ some (rows j)
theorem Sq.start (W : World) (base n : Nat) (D : Ti) (hb : base ≤ W.heap.size) : Sq (W.alloc (.cells (madeCells #[.slice none 0 0] n) 22)) base W.heap.size n 0 (.slice none 0 0) 0 (fun _ => 0) (fun _ => 0) D := by
  have hc : ∀ j, j < n → (madeCells #[Value.slice none 0 0] n)[j]? = some (.slice none 0 0) := by
    intro j hj
    rw [Array.getElem?_eq_getElem (by simpa [madeCells] using hj)]
    simp [madeCells, Value.cells, Nat.mod_one]
  exact ⟨⟨_, blk_new W _, fun j hj => absurd hj (Nat.not_lt_zero j), fun h => hc 0 h, fun j _ hj => hc j hj⟩, fun j hj => absurd hj (Nat.not_lt_zero j), hb, fun j hj => absurd hj (Nat.not_lt_zero j), fun a b ha => absurd ha (Nat.not_lt_zero a), fun j hj => absurd hj (Nat.not_lt_zero j), ⟨rfl, .inl ⟨rfl, rfl⟩⟩, fun j hj => absurd hj (Nat.not_lt_zero j)⟩
/-- A block of another kind of cells is no row of v. -/
theorem own_ne {W : World} {base : Nat} {e : TypeId} {size n : Nat} {v : Value} {xs : List Value} (h : W.ownsRow base e size v n xs) {g : Nat} {cur : Array Value} {t : TypeId} (hg : W.heap[g]? = some (.cells cur t (0, 0))) (ht : e ≠ t) : v.ownBlock ≠ some g := by
  intro e'
  obtain ⟨cells, hc⟩ := own_typed h g e'
  rw [hc] at hg
  cases hg
  exact ht rfl
section
variable {W : World} {base g n i k : Nat} {v : Value} {rows caps : Nat → Nat} {D : Ti}
theorem Sq.cell (h : Sq W base g n i v k rows caps D) (hi : i < n) : W.cell? ⟨g, i, none⟩ = some v := by
  obtain ⟨cur, h1, _, h3, _⟩ := h.outer
  exact (blk_cell h1 i).trans (h3 hi)
theorem Sq.frozen (h : Sq W base g n i v k rows caps D) (j : Nat) : W.frozen? ⟨g, j, none⟩ = false := by
  obtain ⟨cur, h1, _⟩ := h.outer
  exact blk_frozen h1 j
theorem Sq.below {W' : World} (h : Sq W base g n i v k rows caps D) (hb : Below W.heap.size W W') : Sq W' base g n i v k rows caps D :=
  ⟨by obtain ⟨cur, h1, h2⟩ := h.outer; exact ⟨cur, blk_below h1 hb, h2⟩, fun j hj => by obtain ⟨cur, h1, h2⟩ := h.inner j hj; exact ⟨cur, blk_below h1 hb, h2⟩, h.gb, h.rb, h.inj, h.cap,
    own_move h.own (fun k hk => by obtain ⟨c, hc⟩ := own_typed h.own k hk; exact (blk_below hc hb).trans hc.symm), h.far⟩
/-- What an append of the next element and the store of the new slice turn. -/
theorem Sq.push (h : Sq W base g n i v k rows caps D) (hi : i < n) {X Y : World} (hX : Below W.heap.size W X) {g' cap : Nat} (hown : Y.ownsRow base 3 1 (.slice (some ⟨g', 0, none⟩) (k + 1) cap) (k + 1) (((List.range k).map fun j => .int .i64 (D i j)) ++ [.int .i64 (D i k)]))
    (hg : X.grownBy Y v.ownBlock) (hlie : v.ownBlock = some g' ∨ g' = X.heap.size) (q : Nat) :
    Sq ((Y.setCell ⟨g, i, none⟩ (.slice (some ⟨g', 0, none⟩) (k + 1) cap)).drewN q) base g n i (.slice (some ⟨g', 0, none⟩) (k + 1) cap) (k + 1) rows caps D := by
  have hX' := h.below hX
  obtain ⟨cur, h1, h2, h3, h4⟩ := hX'.outer
  have hgne : v.ownBlock ≠ some g := own_ne hX'.own h1 (by decide)
  have hY : Y.heap[g]? = some (.cells cur 22 (0, 0)) := blk_grown h1 hg (Ne.symm hgne)
  have hg'ne : g ≠ g' := by
    rcases hlie with e | e
    · intro e2; subst e2; exact hgne e
    · have := blk_lt h1; omega
  refine ⟨⟨_, blk_drewN (blk_set hY i _) q, fun j hj => ?_, fun _ => ?_, fun j hj hjn => ?_⟩, fun j hj => ?_, h.gb, h.rb, h.inj, h.cap, ?_, fun j hj => ?_⟩
  · rw [Array.getElem?_setIfInBounds, if_neg (by omega)]; exact h2 j hj
  · have := (Array.getElem?_eq_some_iff.1 (h3 hi)).1
    rw [Array.getElem?_setIfInBounds, if_pos rfl, if_pos this]
  · rw [Array.getElem?_setIfInBounds, if_neg (by omega)]; exact h4 j hj hjn
  · obtain ⟨c, hc, hk⟩ := hX'.inner j hj
    exact ⟨c, blk_drewN (blk_far (blk_grown hc hg (Ne.symm (h.far j hj))) (p := ⟨g, i, none⟩) (Ne.symm (blk_ne h1 hc (by decide))) _) q, hk⟩
  · rw [List.range_succ, List.map_append, List.map_cons, List.map_nil]
    exact own_move (w := Y) hown (fun k' hk' => by
      simp only [Value.ownBlock, Option.some.injEq] at hk'
      subst hk'
      exact Below.heap_setCell Y _ _ _ (Ne.symm hg'ne))
  · rcases hlie with e | e
    · show some g' ≠ some (rows j)
      rw [← e]; exact h.far j hj
    · obtain ⟨c, hc, _⟩ := hX'.inner j hj
      have := blk_lt hc
      show some g' ≠ some (rows j)
      intro e2; injection e2; omega
/-- A row is done. -/
theorem Sq.next (h : Sq W base g n i v n rows caps D) (hi : i < n) : ∃ rows' caps', Sq W base g n (i + 1) (.slice none 0 0) 0 rows' caps' D := by
  rcases h.own.2 with ⟨_, h0⟩ | ⟨r, c, cur', hv, hb, hr, hnc, _, hsz, htk⟩
  · omega
  subst hv
  obtain ⟨cur, h1, h2, h3, h4⟩ := h.outer
  refine ⟨fun j => if j = i then r else rows j, fun j => if j = i then c else caps j, ⟨cur, h1, fun j hj => ?_, fun hj => h4 (i + 1) (by omega) hj, fun j hj hjn => h4 j (by omega) hjn⟩, fun j hj => ?_, h.gb, fun j hj => ?_, fun a b ha hb' e => ?_, fun j hj => ?_, ⟨rfl, .inl ⟨rfl, rfl⟩⟩, fun j _ => by simp [Value.ownBlock]⟩
  · by_cases he : j = i
    · subst he; simp only [if_pos]; exact h3 hi
    · simp only [if_neg he]; exact h2 j (by omega)
  · by_cases he : j = i
    · subst he
      simp only [if_pos]
      refine ⟨cur', hr, fun k hk => ?_⟩
      have : (cur'.toList.take (n * 1))[k]? = ((List.range n).map fun j' => Value.int .i64 (D j j'))[k]? := by rw [htk]
      rw [List.getElem?_take_of_lt (by omega), List.getElem?_map, List.getElem?_range hk, Array.getElem?_toList] at this
      exact this
    · simp only [if_neg he]; exact h.inner j (by omega)
  · by_cases he : j = i
    · subst he; simp only [if_pos]; exact hb
    · simp only [if_neg he]; exact h.rb j (by omega)
  · have key : ∀ j, j < i → r ≠ rows j := fun j hj e => h.far j hj (by simp [Value.ownBlock, e])
    by_cases ha' : a = i
    · by_cases hb'' : b = i
      · omega
      · simp only [if_pos ha', if_neg hb''] at e; exact absurd e (key b (by omega))
    · by_cases hb'' : b = i
      · simp only [if_neg ha', if_pos hb''] at e; exact absurd e.symm (key a (by omega))
      · simp only [if_neg ha', if_neg hb''] at e; exact h.inj a b (by omega) (by omega) e
  · by_cases he : j = i
    · subst he; simp only [if_pos]; omega
    · simp only [if_neg he]; exact h.cap j (by omega)
theorem Sq.done (h : Sq W base g n n v k rows caps D) : Mat W base g n rows caps D :=
  ⟨by obtain ⟨cur, h1, h2, _, _⟩ := h.outer; exact ⟨cur, h1, h2⟩, h.inner, h.gb, h.rb, h.inj, h.cap⟩
end
end Go.Proofs.Ytlokeimfmbgigaa.Bk

set_option linter.unusedVariables false
namespace Go.Proofs.Ytlokeimfmbgigaa.Bk
open Go.RowKit Go.Shelf Go.Proofs.YtlokeimfmbgigaaW.PrintWords Go.Proofs.YtlokeimfmbgigaaW.PrintLast Go.Proofs.YtlokeimfmbgigaaW.PrintMore
open Go.Proofs.Ytlokeimfmbgigaa.Ref Go.Proofs.Ytlokeimfmbgigaa.Pl Go.Proofs.Ytlokeimfmbgigaa.Qs
attribute [local go_sem ↓] Go.wp_at_zero Go.wp_at_succ

theorem none1_calls (i k : Nat) (w : World) : Calls Try.prog 65 #[.int .i64 i, .int .i64 k] w fun e w' => e = .returned (.int .i64 (noneI i k)) ∧ w' = w := by
  by_cases h : i = k
  · have hb : ((i : Int) == (k : Int)) = true := beq_iff_eq.mpr (by omega)
    have HE := Aside0.mk (show noneI i k = 0 by unfold noneI; rw [if_pos h])
    clear h
    go_enter Try.func65, Try.ntmps65
    go_wp2_with fail
    go_ret
    exact ⟨by rw [HE.out]; rfl, rfl⟩
  · have hb : ((i : Int) == (k : Int)) = false := beq_eq_false_iff_ne.mpr (by omega)
    have HE := Aside0.mk (show noneI i k = Far by unfold noneI; rw [if_neg h])
    clear h
    go_enter Try.func65, Try.ntmps65
    go_wp2_with fail
    go_ret
    exact ⟨by rw [HE.out]; rfl, rfl⟩
theorem far1_calls (i k : Nat) (w : World) : Calls Try.prog 61 #[.int .i64 i, .int .i64 k] w fun e w' => e = .returned (.int .i64 Far) ∧ w' = w := by
  go_enter Try.func61, Try.ntmps61
  go_wp2_with fail
  go_ret
  exact ⟨rfl, rfl⟩
/-- A table of n rows, as a result. -/
def Table (n : Nat) (D : Ti) (base : Nat) (w : World) (v : Value) : Prop := ∃ (g : Nat) (rows caps : Nat → Nat), v = .slice (some ⟨g, 0, none⟩) n n ∧ Mat w base g n rows caps D
def TableRes (n : Nat) (D : Ti) (w : World) (e : Ending) (w' : World) : Prop := ∃ v, e = .returned v ∧ Table n D w.heap.size w' v ∧ Below w.heap.size w w'
theorem grown_cell {w Y : World} {p : Addr} {v : Value} {row : Option Nat} {o : Obj} (hg : ((w.alloc o).drew).grownBy Y row) (hc : w.cell? p = some v) (hf : w.frozen? p = false) (hne : row ≠ some p.block) : Y.cell? p = some v ∧ Y.frozen? p = false := by
  have hlt := World.block_lt_of_cell? w p hc
  have hlt2 : p.block < ((w.alloc o).drew).heap.size := by simp; omega
  exact ⟨(hg.cell_far p hlt2 (Ne.symm hne)).trans (pw_cell_below ((Below.refl _ w).alloc (Nat.le_refl _) o) hc), (hg.frozen_far p hlt2 (Ne.symm hne)).trans ((World.frozen?_of_block (a := p) (Below.heap_alloc w o p.block hlt)).trans hf)⟩
theorem below_grown {w W Y : World} (h : Below w.heap.size w W) {v : Value} {n : Nat} {e : TypeId} {size : Nat} {xs : List Value} (hown : W.ownsRow w.heap.size e size v n xs) {o : Obj} (hg : ((W.alloc o).drew).grownBy Y v.ownBlock) : Below w.heap.size w Y := by
  have hb := h.alloc h.size o
  refine ⟨hg.os.trans hb.os, hg.tape.trans hb.tape, hg.output.trans hb.output, Nat.le_trans hb.size hg.size, fun k hk => ?_⟩
  exact (hg.block k (Nat.lt_of_lt_of_le hk hb.size) (fun e => by have := own_base hown k e.symm; omega)).trans (hb.block k hk)
set_option maxHeartbeats 4000000 in
set_option maxRecDepth 100000 in
theorem square_calls (n : Nat) (hn : n ≤ 16) (gf : Nat) (D : Ti) (eg : ∀ args w, (callFunc gf args).run Try.prog w = .ok (.enter gf args) w)
    (hf : ∀ (i k : Nat) w, Calls Try.prog gf #[.int .i64 i, .int .i64 k] w fun e w' => e = .returned (.int .i64 (D i k)) ∧ w' = w) (w : World) :
    Calls Try.prog 60 #[.int .i64 n, .func (.func gf) #[] #[]] w (TableRes n D w) := by
  have HF := Aside0.mk hf
  obtain ⟨i0, hi0, hz0, hz1, hz2⟩ := info_parts info22
  obtain ⟨i3, hi3, hy0, hy1, hy2⟩ := info_parts info3
  have hmk := run_make (P := Try.prog) w 38 22 i0 (.slice none 0 0) Try.underlying38 hi0 hz0 .i64 .i64 (n : Int) (n : Int) (by omega) (by omega) (by rw [hz2]; omega) (by omega)
  rw [hz1, Int.toNat_natCast, Nat.mul_one, show (Value.slice none 0 0).cells = #[.slice none 0 0] from rfl] at hmk
  have H0 := Aside0.mk (Sq.start w w.heap.size n D (Nat.le_refl _))
  have HB0 := Aside0.mk ((Below.refl _ w).alloc (Nat.le_refl _) (.cells (madeCells #[.slice none 0 0] n) 22))
  have HN := Aside0.mk hn
  have HI3 := Aside0.mk hi3
  have HY := Aside0.mk (And.intro hy0 (And.intro hy1 hy2))
  have h63 : (n : Int) ≤ 16 := by omega
  clear hf hi0 hz0 hz1 hz2 hn hi3 hy0 hy1 hy2
  go_enter Try.func60, Try.ntmps60
  go_wp2
  generalize w.alloc (.cells (madeCells #[.slice none 0 0] n) 22) = W0 at *
  clear hmk
  go_loopg [11] n (fun kq v wr => ∃ i : Nat, v = .int .i64 (i : Int) ∧ Aside0 (i + kq = n) ∧ Aside0 (∃ rows caps, Sq wr w.heap.size w.heap.size n i (.slice none 0 0) 0 rows caps D) ∧ Aside0 (Below w.heap.size w wr))
  case atStart => exact ⟨0, rfl, ⟨by omega⟩, ⟨_, _, H0.out⟩, HB0⟩
  case round =>
    obtain ⟨i, rfl, HK, HS, HB⟩ := hrel
    by_cases hi : i < n
    · have hib : decide ((i : Int) < (n : Int)) = true := decide_eq_true (by omega)
      have HI := Aside0.mk hi
      have q1 := eq_true (show (i : Int) < (n : Int) by omega)
      have q2 := eq_true (show (0 : Int) ≤ (i : Int) by omega)
      go_wp2_with fail
      obtain ⟨wo, rfl⟩ : ∃ wo : World, wo = wr := ⟨_, rfl⟩
      go_loopg [15] n (fun kp v wi => ∃ (k : Nat), v = .int .i64 (k : Int) ∧ Aside0 (k + kp = n) ∧ Aside0 (∃ rows caps v', Sq wi w.heap.size w.heap.size n i v' k rows caps D) ∧ Aside0 (Below w.heap.size w wi))
      case atStart => exact ⟨0, rfl, ⟨by omega⟩, ⟨by obtain ⟨rows, caps, h⟩ := HS.out; exact ⟨rows, caps, _, h⟩⟩, HB⟩
      case round =>
        clear HS HB
        obtain ⟨k, rfl, HKK, HS, HB⟩ := hrel
        by_cases hk : k < n
        · have hkb : decide ((k : Int) < (n : Int)) = true := decide_eq_true (by omega)
          obtain ⟨⟨rows, caps, v', hS⟩⟩ := HS
          have q3 := eq_true (show (k : Int) < (n : Int) by omega)
          have q4 := eq_true (show (0 : Int) ≤ (k : Int) by omega)
          have d0 := hS.cell HI.out
          have d1 := hS.frozen i
          have d2 : (wr.alloc (.cells #[.int .i64 (D i k)] 3)).cell? ⟨w.heap.size, i, none⟩ = some v' := pw_cell_below ((Below.refl _ wr).alloc (Nat.le_refl _) _) d0
          have hg := hS.gb
          have HSS := Aside0.mk hS
          have HKI := Aside0.mk hk
          have hlt : w.heap.size < wr.heap.size := World.block_lt_of_cell? wr _ d0
          have HLT := Aside0.mk hlt
          have hgne : v'.ownBlock ≠ some w.heap.size := by obtain ⟨cur, h1, _⟩ := hS.outer; exact own_ne hS.own h1 (by decide)
          have HG := Aside0.mk hgne
          clear hS hi hk hg hgne hlt
          go_upto_region 8 with (fail)
          go_region_law (((rw [if_pos (by rfl)]); (try simp only [Act.put, List.getElem_toArray, List.getElem_cons_succ, List.getElem_cons_zero, List.setIfInBounds_toArray, List.set_cons_zero, List.set_cons_succ]); (first
              | (refine wp_call2 _ _ _ _ (by rfl) gf (by rfl) eg (.int .i64 (i : Int)) (.int .i64 (k : Int)) (by rfl) (by rfl) (.int .i64 (D i k)) (HF.out i k _) ?_)
              | (refine wp_append_lies _ _ _ _ (by rfl) w.heap.size 3 i3 _ 1 8 Try.underlying22 HI3.out HY.out.1 HY.out.2.1 HY.out.2.2 rfl (by omega) v' k _ (by rfl) ((HSS.out.own.alloc _).drew) ⟨wr.heap.size, 0, none⟩ 1 1 [.int .i64 (D i k)] (by rfl) (by rfl) (World.news_of_block (cs := #[.int .i64 (D i k)]) (t := 3) (fr := (0, 0)) (heap_alloc_new wr _)) (by simp [Value.oneCell']) (by omega) (by unfold maxLen; have := HKI.out; have := HN.out; omega) (by have := HKI.out; have := HN.out; omega) (by have := HLT.out; simp; omega) (wr.heap.size + 1) (by simp) ?_; intro gg cap w1 hown1 hgrow hat hlt1; obtain ⟨c1, f1⟩ := grown_cell hgrow d0 d1 HG.out))))
          all_goals
            have hPS := Sq.push HSS.out HI.out ((Below.refl _ wr).alloc (Nat.le_refl _) (.cells #[.int .i64 (D i k)] 3)) (Y := w1) hown1 ⟨hgrow.os, hgrow.tape, hgrow.output, hgrow.size, hgrow.block⟩ (by rw [World.size_alloc]; exact hat)
            have HPS := Aside0.mk hPS
            have hBB : Below w.heap.size w w1 := below_grown HB.out HSS.out.own hgrow
            have HBB := Aside0.mk hBB
            clear hPS hBB hown1 hgrow hat hlt1 c1 f1 d0 d1 d2
            have hk1 : k + 1 ≤ 17 := by have := HKI.out; have := HN.out; omega
            go_wp2_with fail
            go_roundg (n - (k + 1))
            case measure => have := HKK.out; have := HKI.out; omega
            case rel => exact ⟨k + 1, by go_num, ⟨by have := HKK.out; have := HKI.out; omega⟩, ⟨rows, caps, _, HPS.out 0⟩, ⟨HBB.out.setCell (p := ⟨w.heap.size, i, none⟩) (Nat.le_refl _) _⟩⟩
        · have hkb : decide ((k : Int) < (n : Int)) = false := decide_eq_false (by omega)
          have hkn : k = n := by have := HKK.out; omega
          go_wp2_with fail
          go_roundg (n - (i + 1))
          case measure => have := HK.out; omega
          case rel => exact ⟨i + 1, by go_num, ⟨by have := HK.out; omega⟩, ⟨by obtain ⟨rows, caps, v', h⟩ := HS.out; subst hkn; exact h.next HI.out⟩, HB⟩
    · have hib : decide ((i : Int) < (n : Int)) = false := decide_eq_false (by omega)
      have hin : i = n := by have := HK.out; omega
      go_wp2_with fail
      go_ret
      obtain ⟨rows, caps, h⟩ := HS.out
      rw [hin] at h
      exact ⟨_, rfl, ⟨_, _, _, rfl, h.done⟩, HB.out⟩
theorem none_calls (n : Nat) (hn : n ≤ 16) (w : World) : Calls Try.prog 58 #[.int .i64 n] w (TableRes n noneI w) := by
  have HN := Aside0.mk hn
  clear hn
  go_enter Try.func58, Try.ntmps58
  go_wp2_with fail
  refine (square_calls n HN.out 65 noneI (enters_of Try.func65 (by kernel_rfl) rfl) none1_calls _).mono ?_
  rintro e w1 ⟨v, rfl, hT, hB⟩
  have HT := Aside0.mk hT
  have HB := Aside0.mk hB
  clear hT hB
  go_wp2_with fail
  go_ret
  exact ⟨v, rfl, HT.out, HB.out⟩
theorem farT_calls (n : Nat) (hn : n ≤ 16) (w : World) : Calls Try.prog 60 #[.int .i64 n, .func (.func 61) #[] #[]] w (TableRes n (fun _ _ => Far) w) :=
  square_calls n hn 61 (fun _ _ => Far) (enters_of Try.func61 (by kernel_rfl) rfl) far1_calls w
end Go.Proofs.Ytlokeimfmbgigaa.Bk

set_option linter.unusedVariables false
set_option linter.unusedSimpArgs false
namespace Go.Proofs.Ytlokeimfmbgigaa.Pl
open Go.Proofs.YtlokeimfmbgigaaW.PrintWords
open Go.Proofs.Ytlokeimfmbgigaa.Ref Go.Proofs.Ytlokeimfmbgigaa.Bk

/-- Far, or small. -/
def SmF (x : Int) : Prop := x = Far ∨ (-129140163000000000 ≤ x ∧ x ≤ 129140163000000000)
theorem smF_enc {o : Option Int} (h : BdO 129140163000000000 o) : SmF (encF o) := by
  cases o with
  | none => exact .inl rfl
  | some x => exact .inr (h x rfl)
/-- The table in round m, row i, element k of the three loops. -/
def stg (n : Nat) (E : List Bd) (m i k : Nat) : Ti := rowI (fwI n m (baseI E) m) m i k (allI (fwI n m (baseI E) m) m n i (fwI n m (baseI E)))
theorem stg_start (n : Nat) (E : List Bd) (m : Nat) : stg n E m 0 0 = fwI n m (baseI E) := rfl
theorem stg_step (n : Nat) (E : List Bd) (m i k : Nat) : stg n E m i (k + 1) = updI (stg n E m i k) i k (min (stg n E m i k i k) (plusI (stg n E m i k i m) (fwI n m (baseI E) m k))) := rfl
theorem stg_row (n : Nat) (E : List Bd) (m i : Nat) : stg n E m i n = stg n E m (i + 1) 0 := rfl
theorem stg_next (n : Nat) (E : List Bd) (m : Nat) : stg n E m n 0 = fwI n (m + 1) (baseI E) := rfl
theorem base_tie {E : List Bd} (hE : ∀ e ∈ E, -1000000000 ≤ e.2.2 ∧ e.2.2 ≤ 1000000000) : encT (baseT E) = baseI E := by
  unfold baseT baseI
  rw [fold_tie (B := 1000000000) (by unfold Far; omega) E noneT hE (fun i k x hx => by
    unfold noneT at hx
    split at hx
    · cases hx; omega
    · cases hx), none_tie]
theorem fw_tied {n m : Nat} (hn : n ≤ 16) (hm : m ≤ n) {E : List Bd} (hE : ∀ e ∈ E, -1000000000 ≤ e.2.2 ∧ e.2.2 ≤ 1000000000) : encT (fw n m (baseT E)) = fwI n m (baseI E) ∧ ∀ i k, BdO 43046721000000000 (fw n m (baseT E) i k) := by
  have hp := pow3_mono (show m ≤ 16 by omega)
  rw [pow3_16] at hp
  refine ⟨?_, fun i k => (fw_bd (B := 1000000000) (by omega) (base_bd (by omega) hE) m i k).mono (by omega)⟩
  rw [fw_tie (B := 1000000000) (by omega) (base_bd (by omega) hE) m (by unfold Far; omega), base_tie hE]
theorem fw_small {n m : Nat} (hn : n ≤ 16) (hm : m ≤ n) {E : List Bd} (hE : ∀ e ∈ E, -1000000000 ≤ e.2.2 ∧ e.2.2 ≤ 1000000000) (i k : Nat) : SmF (fwI n m (baseI E) i k) := by
  obtain ⟨h1, h2⟩ := fw_tied hn hm hE
  rw [← h1]
  exact smF_enc ((h2 i k).mono (by omega))
theorem stg_small {n m : Nat} (hn : n ≤ 16) (hm : m < n) {E : List Bd} (hE : ∀ e ∈ E, -1000000000 ≤ e.2.2 ∧ e.2.2 ≤ 1000000000) (i k a b : Nat) : SmF (stg n E m i k a b) := by
  obtain ⟨h1, h2⟩ := fw_tied hn (Nat.le_of_lt hm) hE
  have hT : (fun k => encF (fw n m (baseT E) m k)) = fwI n m (baseI E) m := congrFun h1 m
  have hall := allM_bd (T := fw n m (baseT E) m) (m := m) (n := n) (B := 43046721000000000) (by omega) (fun k => h2 m k) (D := fw n m (baseT E)) h2 i
  have hrow := rowM_bd (T := fw n m (baseT E) m) (m := m) (i := i) (B := 43046721000000000) (by omega) (fun k => h2 m k) (D := allM (fw n m (baseT E) m) m n i (fw n m (baseT E))) (fun k => by rw [hall.2 i k (Nat.le_refl _)]; exact h2 i k) k
  have htie : encT (rowM (fw n m (baseT E) m) m i k (allM (fw n m (baseT E) m) m n i (fw n m (baseT E)))) = stg n E m i k := by
    rw [rowM_tie (B := 43046721000000000) (by omega) (by unfold Far; omega) (fun k => h2 m k) (fun k => by rw [hall.2 i k (Nat.le_refl _)]; exact h2 i k) k, hT,
      allM_tie (B := 43046721000000000) (by omega) (by unfold Far; omega) (fun k => h2 m k) h2 i, hT, h1]
    rfl
  rw [← htie]
  refine smF_enc (BdO.mono (A := 3 * 43046721000000000) ?_ (by omega))
  by_cases ha : a = i
  · subst ha; exact hrow.1 b
  · rw [hrow.2.2.2 a b ha]; exact hall.1 a b
/-- The bounds of the first i of a list. -/
def baseN (l : List S35) (i : Nat) : Ti := ((bds l).take i).foldl addI noneI
theorem baseN_zero (l : List S35) : baseN l 0 = noneI := rfl
theorem baseN_all (l : List S35) : baseN l l.length = baseI (bds l) := by
  unfold baseN baseI
  rw [List.take_of_length_le (by simp [bds])]
theorem baseN_succ (l : List S35) (j i k : Nat) (m : Int) (hj : j < l.length) (h : l.getD j z35 = ⟨i, k, m⟩) : baseN l (j + 1) = updI (baseN l j) i k (min (baseN l j i k) m) := by
  unfold baseN
  have hlt : j < (bds l).length := by simpa [bds] using hj
  rw [List.take_succ_eq_append_getElem hlt, List.foldl_append]
  have : (bds l)[j] = (i, k, m) := by
    simp only [bds, List.getElem_map]
    rw [List.getD_eq_getElem?_getD, List.getElem?_eq_getElem hj] at h
    simp only [Option.getD_some] at h
    rw [h]
    simp
  rw [this]
  rfl
/-- Does no variable come out below 0? -/
def fineB (n : Nat) (l : List S35) : Bool := (List.range n).all fun i => decide (0 ≤ distI n (bds l) i i)
theorem fineB_iff {n : Nat} {l : List S35} (hv : validB n l = true) : fineB n l = true ↔ Fine n (bds l) := by
  have hn : n ≤ 16 := by
    unfold validB at hv
    simp only [Bool.and_eq_true, decide_eq_true_eq] at hv
    omega
  have hin : In n (bds l) := by have := bds_in hv; simpa using this
  rw [← dist_ok hin]
  unfold fineB
  rw [List.all_eq_true, ← dist_tie hn (bds_small hv)]
  constructor
  · intro h i hi x hx
    have := h i (List.mem_range.2 hi)
    simp only [encT, hx, encF, Option.getD_some, decide_eq_true_eq] at this
    exact this
  · intro h i hi
    rw [decide_eq_true_eq]
    show 0 ≤ encF (distT n (bds l) i i)
    cases hd : distT n (bds l) i i with
    | none => simp only [encF, Option.getD_none]; unfold Far; omega
    | some x => exact h i (List.mem_range.1 hi) x hd
end Go.Proofs.Ytlokeimfmbgigaa.Pl

set_option linter.unusedVariables false
namespace Go.Proofs.Ytlokeimfmbgigaa.Bk
open Go.RowKit Go.Shelf Go.Proofs.YtlokeimfmbgigaaW.PrintWords Go.Proofs.YtlokeimfmbgigaaW.PrintLast Go.Proofs.YtlokeimfmbgigaaW.PrintMore
open Go.Proofs.Ytlokeimfmbgigaa.Ref Go.Proofs.Ytlokeimfmbgigaa.Pl Go.Proofs.Ytlokeimfmbgigaa.Qs

theorem plus_calls (a b : Int) (ha : SmF a) (hb : SmF b) (w : World) : Calls Try.prog 50 #[.int .i64 a, .int .i64 b] w fun e w' => e = .returned (.int .i64 (plusI a b)) ∧ w' = w := by
  by_cases h1 : a = Far
  · have b1 : (a == 1152921504606846976) = true := beq_iff_eq.mpr h1
    have HE := Aside0.mk (show plusI a b = Far by unfold plusI; rw [if_pos h1])
    clear h1 ha hb
    go_enter Try.func50, Try.ntmps50
    go_wp2_with fail
    go_ret
    exact ⟨by rw [HE.out]; rfl, rfl⟩
  · have b1 : (a == 1152921504606846976) = false := beq_eq_false_iff_ne.mpr h1
    by_cases h2 : b = Far
    · have b2 : (b == 1152921504606846976) = true := beq_iff_eq.mpr h2
      have HE := Aside0.mk (show plusI a b = Far by unfold plusI; rw [if_neg h1, if_pos h2])
      clear h1 h2 ha hb
      go_enter Try.func50, Try.ntmps50
      go_wp2_with fail
      go_ret
      exact ⟨by rw [HE.out]; rfl, rfl⟩
    · have b2 : (b == 1152921504606846976) = false := beq_eq_false_iff_ne.mpr h2
      have HE := Aside0.mk (show plusI a b = a + b by unfold plusI; rw [if_neg h1, if_neg h2])
      have q : IntKind.i64.wrap (a + b) = a + b := IntWalk.i64_in _ (by
        rcases ha with ha | ha
        · exact absurd ha h1
        · rcases hb with hb | hb
          · exact absurd hb h2
          · omega)
      clear h1 h2 ha hb
      go_enter Try.func50, Try.ntmps50
      go_wp2_with fail
      go_ret
      exact ⟨by rw [HE.out]; first | rfl | (rw [← q]; rfl), rfl⟩
theorem run_min_min {P : Program} (w : World) (ts : Array TypeId) (t : TypeId) (k k' : IntKind) (x y : Int) : (Builtin.min_ ts t #[.int k x, .int k' y]).run P w = .ok (.int k (min x y)) w := by
  rw [run_min_int2]
  congr 2
  split <;> omega
theorem bound_at {n : Nat} {l : List S35} (hv : validB n l = true) {j : Nat} (hj : j < l.length) : ∃ (i k : Nat) (m : Int), l.getD j z35 = ⟨i, k, m⟩ ∧ i < n ∧ k < n ∧ -1000000000 ≤ m ∧ m ≤ 1000000000 := by
  have h := valid_at hv hj
  generalize l.getD j z35 = x at h ⊢
  obtain ⟨x0, x1, x2⟩ := x
  replace h : (0 ≤ x0 ∧ x0 < (n : Int)) ∧ (0 ≤ x1 ∧ x1 < (n : Int)) ∧ -1000000000 ≤ x2 ∧ x2 ≤ 1000000000 := h
  refine ⟨x0.toNat, x1.toNat, x2, ?_, by omega, by omega, h.2.2.1, h.2.2.2⟩
  rw [Int.toNat_of_nonneg h.1.1, Int.toNat_of_nonneg h.2.1.1]
theorem cells_at {W : World} {A : Option Addr} {l : List S35} (h : Kd.C k35 W A l.length l) {j : Nat} (hj : j < l.length) {i k : Nat} {m : Int} (hx : l.getD j z35 = ⟨i, k, m⟩) :
    ∃ ad, A = some ad ∧ W.cell? (ad.add (j * 3)) = some (.int .i64 i) ∧ W.cell? ⟨(ad.add (j * 3)).block, (ad.add (j * 3)).off + 1, none⟩ = some (.int .i64 k) ∧ W.cell? ⟨(ad.add (j * 3)).block, (ad.add (j * 3)).off + 2, none⟩ = some (.int .i64 m) := by
  obtain ⟨ad, e, c0, c1, c2⟩ := at_T35 h (j : Int) (by omega) (by omega)
  have hr : rd_T35 l (j : Int) = ⟨i, k, m⟩ := by unfold rd_T35; rw [Int.toNat_natCast]; exact hx
  rw [hr, Int.toNat_natCast] at c0 c1 c2
  exact ⟨ad, e, c0, c1, c2⟩
theorem made_rep (v : Value) (n : Nat) : madeCells #[v] n = (List.replicate n v).toArray := by
  apply Array.ext
  · simp [madeCells]
  · intro i h1 h2
    simp [madeCells, Nat.mod_one]
/-- The row that copy has laid. -/
def rowT (n : Nat) (T : Nat → Int) : List Value := (List.range n).map fun k => .int .i64 (T k)
theorem rowT_len (n : Nat) (T : Nat → Int) : (rowT n T).length = n := by simp [rowT]
theorem rowT_get {n k : Nat} (T : Nat → Int) (hk : k < n) : (rowT n T)[k]? = some (.int .i64 (T k)) := by simp [rowT, List.getElem?_range hk]
theorem rowT_one (n : Nat) (T : Nat → Int) : ∀ v ∈ rowT n T, v.oneCell' = true := by
  intro v hv
  obtain ⟨k, _, rfl⟩ := List.mem_map.1 hv
  rfl
theorem splice_all {n : Nat} (v : Value) (T : Nat → Int) : splice (List.replicate n v) 0 (rowT n T) = rowT n T := by
  unfold splice
  rw [List.take_zero, List.nil_append, rowT_len, Nat.zero_add, List.drop_of_length_le (by simp), List.append_nil]
theorem copy_pos {Y : World} {base g n : Nat} {rows caps : Nat → Nat} {D : Ti} (h : Mat Y base g n rows caps D) {m : Nat} (hm : m < n) (dp : Option Addr) :
    0 < (rowT n (D m)).length → dp = dp ∧ ∃ ad, some (⟨rows m, 0, none⟩ : Addr) = some ad ∧ ∀ j v, (rowT n (D m))[j]? = some v → Y.cell? (ad.add j) = some v := fun _ => ⟨rfl, _, rfl, fun j v hj => by
  have hjn : j < n := by have := (List.getElem?_eq_some_iff.1 hj).1; rwa [rowT_len] at this
  rw [rowT_get _ hjn] at hj
  rw [add_plain, ← hj]
  exact h.cell hm hjn⟩
theorem copy_len (n : Nat) (T : Nat → Int) : (rowT n T).length = Nat.min n n := by rw [rowT_len]; exact (Nat.min_self n).symm
theorem copy_fit (n : Nat) (T : Nat → Int) (v : Value) : 0 + (rowT n T).length ≤ (List.replicate n v).length := by rw [rowT_len, List.length_replicate]; omega
end Go.Proofs.Ytlokeimfmbgigaa.Bk

set_option linter.unusedVariables false
namespace Go.Proofs.Ytlokeimfmbgigaa.Bk
open Go.RowKit Go.Shelf Go.Proofs.YtlokeimfmbgigaaW.PrintWords Go.Proofs.YtlokeimfmbgigaaW.PrintLast Go.Proofs.YtlokeimfmbgigaaW.PrintMore
open Go.Proofs.Ytlokeimfmbgigaa.Ref Go.Proofs.Ytlokeimfmbgigaa.Pl Go.Proofs.Ytlokeimfmbgigaa.Qs
attribute [local go_sem high] run_min_min

theorem Mat.weak {w : World} {base base' g n : Nat} {rows caps : Nat → Nat} {D : Ti} (h : Mat w base g n rows caps D) (hb : base' ≤ base) : Mat w base' g n rows caps D :=
  ⟨h.outer, h.inner, Nat.le_trans hb h.gb, fun j hj => Nat.le_trans hb (h.rb j hj), h.inj, h.cap⟩
def DistRes (n : Nat) (l : List S35) (w : World) (e : Ending) (w' : World) : Prop :=
  ∃ v, e = .returned (.tuple #[v, .bool (fineB n l)]) ∧ (fineB n l = true → Table n (distI n (bds l)) w.heap.size w' v) ∧ (fineB n l = false → v = .slice none 0 0) ∧ Below w.heap.size w w'
set_option maxHeartbeats 4000000 in
set_option maxRecDepth 100000 in
theorem distances_calls (n : Nat) (l : List S35) (hv : validB n l = true) (A : Option Addr) (c : Nat) (w : World) (hl : Kd.C k35 w A l.length l) :
    Calls Try.prog 40 #[.agg #[.int .i64 n, .slice A l.length c]] w (DistRes n l w) := by
  have h1 := (Below.refl _ w).alloc (Nat.le_refl _) (.cells #[.int .i64 n, .slice A l.length c] 30)
  have F := Aside0.mk (And.intro hl (And.intro (blk_new w (.cells #[.int .i64 n, .slice A l.length c] 30)) h1))
  have HV := Aside0.mk hv
  have hn : n ≤ 16 := by have := valid_n hv; omega
  have HN := Aside0.mk hn
  have k0 : (w.alloc (.cells #[.int .i64 n, .slice A l.length c] 30)).cell? ⟨w.heap.size, 0, none⟩ = some (.int .i64 n) := (blk_cell F.out.2.1 0).trans rfl
  clear h1 hl hv hn
  go_enter Try.func40, Try.ntmps40
  go_wp2_with fail
  refine (none_calls n HN.out _).mono ?_
  rintro e w1 ⟨v, rfl, ⟨g, rows, caps, rfl, hM⟩, h⟩
  have hsz : w.heap.size + 1 = (w.alloc (.cells #[.int .i64 n, .slice A l.length c] 30)).heap.size := by simp
  rw [← hsz] at hM
  replace F := Aside0.mk (And.intro F.out.1 (And.intro (blk_below F.out.2.1 h) (below_step F.out.2.2 h)))
  have HM := Aside0.mk hM
  clear k0 h hM hsz
  have k1 : w1.cell? ⟨w.heap.size, 1, none⟩ = some (.slice A l.length c) := (blk_cell F.out.2.1 1).trans rfl
  go_wp2_with fail
  clear k1
  have F2 := Aside0.mk (And.intro (baseN_zero l) (baseN_all l))
  go_loopg [18] l.length (fun kq v wr => ∃ j : Nat, v = .int .i64 (j : Int) ∧ Aside0 (j + kq = l.length) ∧ Aside0 (Mat wr (w.heap.size + 1) g n rows caps (baseN l j)) ∧ Aside0 (wr.heap[w.heap.size]? = some (.cells #[.int .i64 n, .slice A l.length c] 30 (0, 0))) ∧ Aside0 (Below w.heap.size w wr))
  case atStart => exact ⟨0, rfl, ⟨by omega⟩, ⟨by rw [F2.out.1]; exact HM.out⟩, ⟨F.out.2.1⟩, ⟨F.out.2.2⟩⟩
  case round =>
    clear HM F2
    obtain ⟨j, rfl, HK, HM, HB, HW⟩ := hrel
    by_cases hj : j < l.length
    · have hjb : decide ((j : Int) < (l.length : Int)) = true := decide_eq_true (by omega)
      have q1 := eq_true (show (j : Int) < (l.length : Int) by omega)
      have q2 := eq_true (show (0 : Int) ≤ (j : Int) by omega)
      obtain ⟨i, k, m, hx, hi, hk, hm⟩ := bound_at HV.out hj
      obtain ⟨ad, rfl, c0, c1, c2⟩ := cells_at (Kd.C_below F.out.1 HW.out) hj hx
      have HX := Aside0.mk (baseN_succ l j i k m hj hx)
      have HJ := Aside0.mk hj
      have HI := Aside0.mk (And.intro hi hk)
      clear hx hm hj
      go_upto_region 5 with (fail)
      have hXb := (Below.refl _ wr).alloc (Nat.le_refl _) (.cells #[.int .i64 (i : Int), .int .i64 (k : Int), .int .i64 m] 35)
      have hXn := blk_new wr (.cells #[.int .i64 (i : Int), .int .i64 (k : Int), .int .i64 m] 35)
      generalize wr.alloc (.cells #[.int .i64 (i : Int), .int .i64 (k : Int), .int .i64 m] 35) = X at *
      have HMX := Aside0.mk (HM.out.below hXb)
      have HXB := Aside0.mk (blk_below HB.out hXb)
      have HXW := Aside0.mk (below_step HW.out hXb)
      have x0 : X.cell? ⟨wr.heap.size, 0, none⟩ = some (.int .i64 i) := (blk_cell hXn 0).trans rfl
      have x1 : X.cell? ⟨wr.heap.size, 1, none⟩ = some (.int .i64 k) := (blk_cell hXn 1).trans rfl
      have x2 : X.cell? ⟨wr.heap.size, 2, none⟩ = some (.int .i64 m) := (blk_cell hXn 2).trans rfl
      have y0 := HMX.out.row HI.out.1
      have y1 := HMX.out.cell HI.out.1 HI.out.2
      have y2 := HMX.out.frozen HI.out.1 k
      have r1 := eq_true (show (i : Int) < (n : Int) by have := HI.out.1; omega)
      have r2 := eq_true (show (0 : Int) ≤ (i : Int) by omega)
      have r3 := eq_true (show (k : Int) < (n : Int) by have := HI.out.2; omega)
      have r4 := eq_true (show (0 : Int) ≤ (k : Int) by omega)
      clear hXb hXn c0 c1 c2 q1 q2
      refine wp_region_still_tail 19 (by kernel_rfl) (by kernel_rfl) ?_
      simp only [List.take_succ_cons, List.take_zero, List.drop_succ_cons, List.drop_zero]
      repeat still_step
      refine wpStill_nil ?_
      have hj1 : j + 1 ≤ 61 := by have := HJ.out; have := (small_valid HV.out).1; omega
      go_wp2_with fail
      go_roundg (l.length - (j + 1))
      case measure => have := HK.out; have := HJ.out; omega
      case rel => exact ⟨j + 1, by go_num, ⟨by have := HK.out; have := HJ.out; omega⟩, ⟨by rw [HX.out]; exact (HMX.out.put HI.out.1 HI.out.2 _).drewN 1⟩, ⟨blk_drewN (blk_far HXB.out (p := ⟨rows i, k, none⟩) (by have := HMX.out.rb i HI.out.1; simp only; omega) _) 1⟩, ⟨pw_below_drewN (HXW.out.setCell (p := ⟨rows i, k, none⟩) (by have := HMX.out.rb i HI.out.1; simp only; omega) _) 1⟩⟩
    · have hjb : decide ((j : Int) < (l.length : Int)) = false := decide_eq_false (by omega)
      have hjl : j = l.length := by have := HK.out; omega
      subst hjl
      replace HM := Aside0.mk (show Mat wr (w.heap.size + 1) g n rows caps (stg n (bds l) 0 0 0) from by rw [stg_start]; have := HM.out; rw [baseN_all] at this; exact this)
      have k0 : wr.cell? ⟨w.heap.size, 0, none⟩ = some (.int .i64 n) := (blk_cell HB.out 0).trans rfl
      clear hj
      go_wp2_with fail
      obtain ⟨wo, rfl⟩ : ∃ wo : World, wo = wr := ⟨_, rfl⟩
      clear k0
      go_loopg [45] n (fun kq v wr => ∃ m : Nat, v = .int .i64 (m : Int) ∧ Aside0 (m + kq = n) ∧ Aside0 (Mat wr (w.heap.size + 1) g n rows caps (stg n (bds l) m 0 0)) ∧ Aside0 (wr.heap[w.heap.size]? = some (.cells #[.int .i64 n, .slice A l.length c] 30 (0, 0))) ∧ Aside0 (Below w.heap.size w wr))
      case atStart => exact ⟨0, rfl, ⟨by omega⟩, HM, HB, HW⟩
      case round =>
        clear HM HB HW
        obtain ⟨m, rfl, HKM, HM, HB, HW⟩ := hrel
        by_cases hm : m < n
        · have hmb : decide ((m : Int) < (n : Int)) = true := decide_eq_true (by omega)
          have q1 := eq_true (show (m : Int) < (n : Int) by omega)
          have q2 := eq_true (show (0 : Int) ≤ (m : Int) by omega)
          obtain ⟨i3, hi3, hy0, hy1, hy2⟩ := info_parts info3
          have hn16 : n ≤ 16 := HN.out
          have hmk := run_make (P := Try.prog) wr 22 3 i3 (.int .i64 0) Try.underlying22 hi3 hy0 .i64 .i64 (n : Int) (n : Int) (by omega) (by omega) (by rw [hy2]; omega) (by omega)
          rw [hy1, Int.toNat_natCast, Nat.mul_one, show (Value.int .i64 0).cells = #[.int .i64 0] from rfl] at hmk
          have hsz3 : (Try.prog.info? 3).map (·.size) = some 1 := by rw [hi3]; simp [hy1]
          have k0 : wr.cell? ⟨w.heap.size, 0, none⟩ = some (.int .i64 n) := (blk_cell HB.out 0).trans rfl
          have hYb := (Below.refl _ wr).alloc (Nat.le_refl _) (.cells (madeCells #[.int .i64 0] n) 3)
          have HYn := Aside0.mk (show (wr.alloc (.cells (madeCells #[.int .i64 0] n) 3)).heap[wr.heap.size]? = some (.cells (List.replicate n (.int .i64 0)).toArray 3 (0, 0)) from by rw [← made_rep]; exact blk_new wr _)
          have HYB := Aside0.mk hYb
          have HMI := Aside0.mk hm
          have HMY := Aside0.mk (HM.out.below hYb)
          have y0 := HMY.out.row hm
          clear hi3 hy0 hy1 hy2 hYb
          go_upto_region 11 with (fail)
          go_wp2_with (refine wpList_copy_splice rfl (.tmp 51) (.tmp 55) 22 22 rfl 3 Try.underlying22 hsz3 _ _ _ _ _ _ rfl rfl wr.heap.size 0 (List.replicate n (.int .i64 0)) 3 HYn.out (rowT n (stg n (bds l) m 0 0 m)) (copy_len _ _) (copy_pos HMY.out HMI.out _) (copy_fit _ _ _) (rowT_one _ _) wr.heap.size wr HYB.out (Nat.le_refl _) ?_; intro w2 HG2 hB2; have k2 : w2.cell? ⟨w.heap.size, 0, none⟩ = some (.int .i64 n) := pw_cell_below hB2 k0; have HB2 := Aside0.mk hB2; clear hB2)
          have HG := Aside0.mk (show w2.heap[wr.heap.size]? = some (.cells (rowT n (fwI n m (baseI (bds l)) m)).toArray 3 (0, 0)) from by have h := HG2.out; rw [splice_all, stg_start] at h; exact h)
          have HLT := Aside0.mk (show ∀ j, j < n → rows j < wr.heap.size from fun j hj => by obtain ⟨cur, hc, _⟩ := HM.out.inner j hj; exact blk_lt hc)
          have HLB := Aside0.mk HW.out.size
          have HM2 := Aside0.mk (show Mat w2 (w.heap.size + 1) g n rows caps (stg n (bds l) m 0 0) from HM.out.below HB2.out)
          have HBX := Aside0.mk (blk_below HB.out HB2.out)
          have HW2 := Aside0.mk (below_step HW.out HB2.out)
          have HSM := Aside0.mk (fun i k a b => stg_small hn16 hm (bds_small HV.out) i k a b)
          have HTM := Aside0.mk (fun k => fw_small hn16 (Nat.le_of_lt hm) (bds_small HV.out) m k)
          clear HG2 k0 k2 y0 hmk hsz3 q1 q2 HMY HYn HYB HB2 HM HB HW hm
          obtain ⟨T, hT⟩ : ∃ T, T = wr.heap.size := ⟨_, rfl⟩
          rw [← hT] at HG HLT HLB ⊢
          clear hT
          obtain ⟨wo2, rfl⟩ : ∃ wo2 : World, wo2 = wr := ⟨_, rfl⟩
          clear wo2
          go_loopg [59] n (fun kq v wr => ∃ i : Nat, v = .int .i64 (i : Int) ∧ Aside0 (i + kq = n) ∧ Aside0 (Mat wr (w.heap.size + 1) g n rows caps (stg n (bds l) m i 0)) ∧ Aside0 (wr.heap[w.heap.size]? = some (.cells #[.int .i64 n, .slice A l.length c] 30 (0, 0))) ∧ Aside0 (wr.heap[T]? = some (.cells (rowT n (fwI n m (baseI (bds l)) m)).toArray 3 (0, 0))) ∧ Aside0 (Below w.heap.size w wr))
          case atStart => exact ⟨0, rfl, ⟨by omega⟩, HM2, HBX, HG, HW2⟩
          case round =>
            clear HM2 HBX HG HW2
            obtain ⟨i, rfl, HKI, HM, HB, HG, HW⟩ := hrel
            by_cases hi : i < n
            · have hib : decide ((i : Int) < (n : Int)) = true := decide_eq_true (by omega)
              have k0 : wr.cell? ⟨w.heap.size, 0, none⟩ = some (.int .i64 n) := (blk_cell HB.out 0).trans rfl
              have HII := Aside0.mk hi
              have q1 := eq_true (show (i : Int) < (n : Int) by omega)
              clear hi
              go_wp2_with fail
              clear k0
              obtain ⟨wo3, rfl⟩ : ∃ wo3 : World, wo3 = wr := ⟨_, rfl⟩
              go_loopg [64] n (fun kq v wr => ∃ k : Nat, v = .int .i64 (k : Int) ∧ Aside0 (k + kq = n) ∧ Aside0 (Mat wr (w.heap.size + 1) g n rows caps (stg n (bds l) m i k)) ∧ Aside0 (wr.heap[w.heap.size]? = some (.cells #[.int .i64 n, .slice A l.length c] 30 (0, 0))) ∧ Aside0 (wr.heap[T]? = some (.cells (rowT n (fwI n m (baseI (bds l)) m)).toArray 3 (0, 0))) ∧ Aside0 (Below w.heap.size w wr))
              case atStart => exact ⟨0, rfl, ⟨by omega⟩, HM, HB, HG, HW⟩
              case round =>
                clear HM HB HG HW wo3
                obtain ⟨k, rfl, HKK, HM, HB, HG, HW⟩ := hrel
                by_cases hk : k < n
                · have hkb : decide ((k : Int) < (n : Int)) = true := decide_eq_true (by omega)
                  have HKL := Aside0.mk hk
                  have q3 := eq_true (show (k : Int) < (n : Int) by omega)
                  have q4 := eq_true (show (0 : Int) ≤ (k : Int) by omega)
                  have q2 := eq_true (show (0 : Int) ≤ (i : Int) by omega)
                  have q5 := eq_true (show (m : Int) < (n : Int) by have := HMI.out; omega)
                  have q6 := eq_true (show (0 : Int) ≤ (m : Int) by omega)
                  have y0 := HM.out.row HII.out
                  have y1 := HM.out.cell HII.out hk
                  have y2 := HM.out.cell HII.out HMI.out
                  have y3 := HM.out.frozen HII.out k
                  have yT : wr.cell? ⟨T, k, none⟩ = some (.int .i64 (fwI n m (baseI (bds l)) m k)) := (blk_cell HG.out k).trans (by rw [List.getElem?_toArray]; exact rowT_get _ hk)
                  have HSA := Aside0.mk (HSM.out i k i m)
                  have HST := Aside0.mk (HTM.out k)
                  have HSS := Aside0.mk (stg_step n (bds l) m i k)
                  generalize fwI n m (baseI (bds l)) m k = tk at yT HST HSS
                  generalize stg n (bds l) m i k i m = sm at y2 HSA HSS
                  clear hk
                  go_upto_region 18 with (fail)
                  refine wp_region_still_tail 25 (by kernel_rfl) (by kernel_rfl) ?_
                  simp only [List.take_succ_cons, List.take_zero, List.drop_succ_cons, List.drop_zero]
                  repeat still_step
                  still_call (plus_calls sm tk HSA.out HST.out _)
                  repeat still_step
                  refine wpStill_nil ?_
                  have hk17 : k + 1 ≤ 17 := by have := HKL.out; omega
                  go_wp2_with fail
                  go_roundg (n - (k + 1))
                  case measure => have := HKK.out; have := HKL.out; omega
                  case rel => exact ⟨k + 1, by go_num, ⟨by have := HKK.out; have := HKL.out; omega⟩, ⟨by rw [HSS.out]; exact (HM.out.put HII.out HKL.out _).drewN 1⟩, ⟨blk_drewN (blk_far HB.out (p := ⟨rows i, k, none⟩) (by have := HM.out.rb i HII.out; simp only; omega) _) 1⟩, ⟨blk_drewN (blk_far HG.out (p := ⟨rows i, k, none⟩) (by have := HLT.out i HII.out; simp only; omega) _) 1⟩, ⟨pw_below_drewN (HW.out.setCell (p := ⟨rows i, k, none⟩) (by have := HM.out.rb i HII.out; simp only; omega) _) 1⟩⟩
                · have hkb : decide ((k : Int) < (n : Int)) = false := decide_eq_false (by omega)
                  have hkn : k = n := by have := HKK.out; omega
                  have hi17 : i + 1 ≤ 17 := by have := HII.out; omega
                  go_wp2_with fail
                  go_roundg (n - (i + 1))
                  case measure => have := HKI.out; have := HII.out; omega
                  case rel => exact ⟨i + 1, by go_num, ⟨by have := HKI.out; have := HII.out; omega⟩, ⟨by rw [← stg_row]; have := HM.out; rw [hkn] at this; exact this⟩, HB, HG, HW⟩
            · have hib : decide ((i : Int) < (n : Int)) = false := decide_eq_false (by omega)
              have hin : i = n := by have := HKI.out; omega
              have hm17 : m + 1 ≤ 17 := by have := HMI.out; omega
              go_wp2_with fail
              go_roundg (n - (m + 1))
              case measure => have := HKM.out; have := HMI.out; omega
              case rel => exact ⟨m + 1, by go_num, ⟨by have := HKM.out; have := HMI.out; omega⟩, ⟨by rw [stg_start, ← stg_next]; have := HM.out; rw [hin] at this; exact this⟩, HB, HW⟩
        · have hmb : decide ((m : Int) < (n : Int)) = false := decide_eq_false (by omega)
          have hmn : m = n := by have := HKM.out; omega
          subst hmn
          replace HM := Aside0.mk (show Mat wr (w.heap.size + 1) g m rows caps (distI m (bds l)) from HM.out)
          have k0 : wr.cell? ⟨w.heap.size, 0, none⟩ = some (.int .i64 m) := (blk_cell HB.out 0).trans rfl
          clear hm HKM
          go_wp2_with fail
          obtain ⟨wo2, rfl⟩ : ∃ wo2 : World, wo2 = wr := ⟨_, rfl⟩
          clear k0
          go_loopg [98] m (fun kq v wr => ∃ i : Nat, v = .int .i64 (i : Int) ∧ Aside0 (i + kq = m) ∧ Aside0 (∀ j, j < i → 0 ≤ distI m (bds l) j j) ∧ Aside0 (Mat wr (w.heap.size + 1) g m rows caps (distI m (bds l))) ∧ Aside0 (Below w.heap.size w wr))
          case atStart => exact ⟨0, rfl, ⟨by omega⟩, ⟨fun j hj => absurd hj (Nat.not_lt_zero j)⟩, HM, HW⟩
          case round =>
            clear HM HB HW wo2
            obtain ⟨i, rfl, HKI, HP, HM, HW⟩ := hrel
            by_cases hi : i < m
            · have hib : decide ((i : Int) < (m : Int)) = true := decide_eq_true (by omega)
              have q1 := eq_true (show (i : Int) < (m : Int) by omega)
              have q2 := eq_true (show (0 : Int) ≤ (i : Int) by omega)
              have y0 := HM.out.row hi
              have y1 := HM.out.cell hi hi
              have HII := Aside0.mk hi
              obtain ⟨d, hd⟩ : ∃ d, distI m (bds l) i i = d := ⟨_, rfl⟩
              rw [hd] at y1
              have HD := Aside0.mk hd
              clear hi hd
              have hi17 : i + 1 ≤ 17 := by have := HII.out; have := HN.out; omega
              by_cases hneg : d < 0
              · have hnb : decide (d < 0) = true := decide_eq_true hneg
                have HF := Aside0.mk (show fineB m l = false from by
                  rw [← Bool.not_eq_true]
                  intro hf
                  unfold fineB at hf
                  rw [List.all_eq_true] at hf
                  have := hf i (List.mem_range.2 HII.out)
                  rw [decide_eq_true_eq, HD.out] at this
                  omega)
                clear hneg
                go_wp2_with fail
                go_ret2
                exact ⟨_, by rw [HF.out]; rfl, (fun h => absurd (HF.out.symm.trans h) (by decide)), fun _ => rfl, HW.out⟩
              · have hnb : decide (d < 0) = false := decide_eq_false hneg
                have HG := Aside0.mk hneg
                clear hneg
                go_wp2_with fail
                go_roundg (m - (i + 1))
                case measure => have := HKI.out; have := HII.out; omega
                case rel => exact ⟨i + 1, by go_num, ⟨by have := HKI.out; have := HII.out; omega⟩, ⟨fun j hj => by
                  by_cases he : j = i
                  · subst he; rw [HD.out]; have := HG.out; omega
                  · exact HP.out j (by omega)⟩, HM, HW⟩
            · have hib : decide ((i : Int) < (m : Int)) = false := decide_eq_false (by omega)
              have him : i = m := by have := HKI.out; omega
              have HF := Aside0.mk (show fineB m l = true from by
                unfold fineB
                rw [List.all_eq_true]
                intro j hj
                rw [decide_eq_true_eq]
                exact HP.out j (by rw [him]; exact List.mem_range.1 hj))
              clear hi
              go_wp2_with fail
              go_ret2
              exact ⟨_, by rw [HF.out]; rfl, fun _ => ⟨g, rows, caps, rfl, HM.out.weak (by omega)⟩, (fun h => absurd (HF.out.symm.trans h) (by decide)), HW.out⟩
end Go.Proofs.Ytlokeimfmbgigaa.Bk

set_option linter.unusedVariables false
namespace Go.Proofs.Ytlokeimfmbgigaa.Bk
open Go.RowKit Go.Shelf Go.Proofs.YtlokeimfmbgigaaW.PrintWords Go.Proofs.YtlokeimfmbgigaaW.PrintLast Go.Proofs.YtlokeimfmbgigaaW.PrintMore
open Go.Proofs.Ytlokeimfmbgigaa.Ref Go.Proofs.Ytlokeimfmbgigaa.Pl Go.Proofs.Ytlokeimfmbgigaa.Qs

/-- Are these valid bounds without a contradiction? -/
def closeB (n : Int) (l : List S35) : Bool := validB n l && fineB n.toNat l
def errC (b : Bool) : Int := if b then 0 else 60
def CloseRes (n : Int) (l : List S35) (w : World) (e : Ending) (w' : World) : Prop :=
  ∃ v, e = .returned (.tuple #[v, .int .i64 (errC (closeB n l))]) ∧ (closeB n l = true → Table n.toNat (distI n.toNat (bds l)) w.heap.size w' v) ∧ (closeB n l = false → v = .slice none 0 0) ∧ Below w.heap.size w w'
theorem Table.weak {n : Nat} {D : Ti} {base base' : Nat} {w : World} {v : Value} (h : Table n D base w v) (hb : base' ≤ base) : Table n D base' w v := by
  obtain ⟨g, rows, caps, rfl, hM⟩ := h
  exact ⟨g, rows, caps, rfl, hM.weak hb⟩
theorem Table.below {n : Nat} {D : Ti} {base : Nat} {w w' : World} {v : Value} (h : Table n D base w v) (hb : Below w.heap.size w w') : Table n D base w' v := by
  obtain ⟨g, rows, caps, rfl, hM⟩ := h
  exact ⟨g, rows, caps, rfl, hM.below hb⟩
set_option maxHeartbeats 2000000 in
theorem close_calls (n : Int) (l : List S35) (A : Option Addr) (c : Nat) (w : World) (hl : Kd.C k35 w A l.length l) :
    Calls Try.prog 15 #[.agg #[.int .i64 n, .slice A l.length c]] w (CloseRes n l w) := by
  have h1 := (Below.refl _ w).alloc (Nat.le_refl _) (.cells #[.int .i64 n, .slice A l.length c] 30)
  have F := Aside0.mk (And.intro (Kd.C_below hl h1) (And.intro (blk_new w (.cells #[.int .i64 n, .slice A l.length c] 30)) h1))
  have k0 : (w.alloc (.cells #[.int .i64 n, .slice A l.length c] 30)).cell? ⟨w.heap.size, 0, none⟩ = some (.int .i64 n) := (blk_cell F.out.2.1 0).trans rfl
  have k1 : (w.alloc (.cells #[.int .i64 n, .slice A l.length c] 30)).cell? ⟨w.heap.size, 1, none⟩ = some (.slice A l.length c) := (blk_cell F.out.2.1 1).trans rfl
  clear h1 hl
  go_enter Try.func15, Try.ntmps15
  go_wp2_with fail
  refine (valid_calls n l A c _ F.out.1).mono ?_
  rintro e w1 ⟨rfl, h⟩
  replace F := Aside0.mk (And.intro (Kd.C_below F.out.1 h) (And.intro (blk_below F.out.2.1 h) (below_step F.out.2.2 h)))
  clear k0 k1 h
  cases hv : validB n l with
  | false =>
    have HC := Aside0.mk (show closeB n l = false by unfold closeB; rw [hv]; rfl)
    clear hv
    go_wp2_with fail
    go_ret2
    exact ⟨_, by rw [HC.out]; rfl, (fun h => absurd (HC.out.symm.trans h) (by decide)), fun _ => rfl, F.out.2.2⟩
  | true =>
    have k0 : w1.cell? ⟨w.heap.size, 0, none⟩ = some (.int .i64 n) := (blk_cell F.out.2.1 0).trans rfl
    have k1 : w1.cell? ⟨w.heap.size, 1, none⟩ = some (.slice A l.length c) := (blk_cell F.out.2.1 1).trans rfl
    obtain ⟨N, hN⟩ : ∃ N : Nat, n = N := ⟨n.toNat, by have := valid_n hv; omega⟩
    subst hN
    have HV := Aside0.mk hv
    clear hv
    go_wp2_with fail
    refine (distances_calls N l HV.out A c _ F.out.1).mono ?_
    rintro e w2 ⟨v, rfl, hT, hF, h⟩
    have HB := Aside0.mk (below_step F.out.2.2 h)
    have HT := Aside0.mk hT
    have HF := Aside0.mk hF
    have HS := Aside0.mk F.out.2.2.size
    have HC := Aside0.mk (show closeB (N : Int) l = fineB N l by unfold closeB; rw [HV.out, Int.toNat_natCast, Bool.true_and])
    clear k0 k1 h hT hF
    cases hf : fineB N l with
    | false =>
      rw [hf] at HC
      clear hf
      go_wp2_with fail
      go_ret2
      exact ⟨_, by rw [HC.out]; rfl, (fun h => absurd (HC.out.symm.trans h) (by decide)), fun _ => rfl, HB.out⟩
    | true =>
      rw [hf] at HC
      have HTT := Aside0.mk (HT.out hf)
      clear hf
      go_wp2_with fail
      go_ret2
      exact ⟨v, by rw [HC.out]; rfl, fun _ => by rw [Int.toNat_natCast]; exact HTT.out.weak HS.out, (fun h => absurd (HC.out.symm.trans h) (by decide)), HB.out⟩
end Go.Proofs.Ytlokeimfmbgigaa.Bk

set_option linter.unusedVariables false
namespace Go.Proofs.Ytlokeimfmbgigaa.Bk
open Go.RowKit Go.Shelf Go.Proofs.YtlokeimfmbgigaaW.PrintWords Go.Proofs.YtlokeimfmbgigaaW.PrintLast Go.Proofs.YtlokeimfmbgigaaW.PrintMore
open Go.Proofs.Ytlokeimfmbgigaa.Ref Go.Proofs.Ytlokeimfmbgigaa.Pl Go.Proofs.Ytlokeimfmbgigaa.Qs
attribute [local go_sem high] run_min_min

/-- A row of n numbers in a block of its own. -/
def Row (w : World) (o n : Nat) (X : Nat → Int) : Prop := ∃ cur : Array Value, w.heap[o]? = some (.cells cur 3 (0, 0)) ∧ ∀ k, k < n → cur[k]? = some (.int .i64 (X k))
section
variable {w w' : World} {o n : Nat} {X : Nat → Int}
theorem Row.cell (h : Row w o n X) {k : Nat} (hk : k < n) : w.cell? ⟨o, k, none⟩ = some (.int .i64 (X k)) := by
  obtain ⟨cur, h1, h2⟩ := h
  exact (blk_cell h1 k).trans (h2 k hk)
theorem Row.frozen (h : Row w o n X) (k : Nat) : w.frozen? ⟨o, k, none⟩ = false := by
  obtain ⟨cur, h1, h2⟩ := h
  exact blk_frozen h1 k
theorem Row.below (h : Row w o n X) (hb : Below w.heap.size w w') : Row w' o n X := by
  obtain ⟨cur, h1, h2⟩ := h
  exact ⟨cur, blk_below h1 hb, h2⟩
theorem Row.put (h : Row w o n X) {k : Nat} (hk : k < n) (v : Int) : Row (w.setCell ⟨o, k, none⟩ (.int .i64 v)) o n (fun j => if j = k then v else X j) := by
  obtain ⟨cur, h1, h2⟩ := h
  refine ⟨_, blk_set h1 k _, fun j hj => ?_⟩
  by_cases he : j = k
  · subst he
    have := (Array.getElem?_eq_some_iff.1 (h2 j hj)).1
    rw [Array.getElem?_setIfInBounds, if_pos rfl, if_pos this]
    simp only [if_pos]
  · rw [Array.getElem?_setIfInBounds, if_neg (fun e => he e.symm)]
    simp only [if_neg he]
    exact h2 j hj
theorem Row.ext {Y : Nat → Int} (h : Row w o n X) (he : ∀ k, k < n → X k = Y k) : Row w o n Y := by
  obtain ⟨cur, h1, h2⟩ := h
  exact ⟨cur, h1, fun k hk => by rw [← he k hk]; exact h2 k hk⟩
end
theorem Mat.far {w : World} {base g n : Nat} {rows caps : Nat → Nat} {D : Ti} (h : Mat w base g n rows caps D) {p : Addr} (hp : ∀ j, j < n → rows j ≠ p.block) (hg : p.block ≠ g) (u : Value) : Mat (w.setCell p u) base g n rows caps D :=
  ⟨by obtain ⟨cur, h1, h2⟩ := h.outer; exact ⟨cur, blk_far h1 (Ne.symm hg) _, h2⟩, fun j hj => by obtain ⟨cur, h1, h2⟩ := h.inner j hj; exact ⟨cur, blk_far h1 (hp j hj) _, h2⟩, h.gb, h.rb, h.inj, h.cap⟩
def solI (D : Ti) (k : Nat) : Nat → Int
  | 0 => 0
  | i + 1 => min (solI D k i) (D i k)
def midI (D : Ti) (i k : Nat) : Nat → Int := fun j => if j < k then solI D j (i + 1) else solI D j i
theorem midI_step (D : Ti) (i k : Nat) : (fun j => if j = k then min (midI D i k k) (D i k) else midI D i k j) = midI D i (k + 1) := by
  funext j
  unfold midI
  by_cases he : j = k
  · subst he
    rw [if_pos rfl, if_neg (Nat.lt_irrefl j), if_pos (Nat.lt_succ_self j)]
    rfl
  · rw [if_neg he]
    by_cases hl : j < k
    · rw [if_pos hl, if_pos (by omega)]
    · rw [if_neg hl, if_neg (by omega)]
theorem midI_zero (D : Ti) (i : Nat) : midI D i 0 = fun j => solI D j i := by
  funext j
  unfold midI
  rw [if_neg (Nat.not_lt_zero j)]
theorem midI_full (D : Ti) (i n j : Nat) (hj : j < n) : midI D i n j = midI D (i + 1) 0 j := by
  unfold midI
  rw [if_pos hj, if_neg (Nat.not_lt_zero j)]
def SolveRes (n : Int) (l : List S35) (w : World) (e : Ending) (w' : World) : Prop :=
  ∃ v, e = .returned (.tuple #[v, .int .i64 (errC (closeB n l))]) ∧ (closeB n l = true → ∃ o, v = .slice (some ⟨o, 0, none⟩) n.toNat n.toNat ∧ w.heap.size ≤ o ∧ Row w' o n.toNat (fun k => solI (distI n.toNat (bds l)) k n.toNat)) ∧ (closeB n l = false → v = .slice none 0 0) ∧ Below w.heap.size w w'
set_option maxHeartbeats 4000000 in
theorem solve_calls (n : Int) (l : List S35) (A : Option Addr) (c : Nat) (w : World) (hl : Kd.C k35 w A l.length l) :
    Calls Try.prog 23 #[.agg #[.int .i64 n, .slice A l.length c]] w (SolveRes n l w) := by
  have h1 := (Below.refl _ w).alloc (Nat.le_refl _) (.cells #[.int .i64 n, .slice A l.length c] 30)
  have F := Aside0.mk (And.intro (Kd.C_below hl h1) (And.intro (blk_new w (.cells #[.int .i64 n, .slice A l.length c] 30)) h1))
  have k0 : (w.alloc (.cells #[.int .i64 n, .slice A l.length c] 30)).cell? ⟨w.heap.size, 0, none⟩ = some (.int .i64 n) := (blk_cell F.out.2.1 0).trans rfl
  have k1 : (w.alloc (.cells #[.int .i64 n, .slice A l.length c] 30)).cell? ⟨w.heap.size, 1, none⟩ = some (.slice A l.length c) := (blk_cell F.out.2.1 1).trans rfl
  clear h1 hl
  go_enter Try.func23, Try.ntmps23
  go_wp2_with fail
  refine (close_calls n l A c _ F.out.1).mono ?_
  rintro e w1 ⟨v, rfl, hT, hF, h⟩
  have HT := Aside0.mk hT
  replace F := Aside0.mk (And.intro (blk_below F.out.2.1 h) (And.intro F.out.2.2.size (below_step F.out.2.2 h)))
  clear k0 k1 h hT hF
  cases hc : closeB n l with
  | false =>
    have HC := Aside0.mk hc
    clear hc
    simp only [errC]
    go_wp2_with fail
    go_ret2
    exact ⟨_, by rw [HC.out]; rfl, (fun h => absurd (HC.out.symm.trans h) (by decide)), fun _ => rfl, F.out.2.2⟩
  | true =>
    have hv : validB n l = true := by unfold closeB at hc; rw [Bool.and_eq_true] at hc; exact hc.1
    obtain ⟨N, hN⟩ : ∃ N : Nat, n = N := ⟨n.toNat, by have := valid_n hv; omega⟩
    subst hN
    have hn : N ≤ 16 := by have := valid_n hv; omega
    obtain ⟨g, rows, caps, rfl, hM⟩ := HT.out hc
    obtain ⟨D, hD⟩ : ∃ D, D = distI N (bds l) := ⟨_, rfl⟩
    rw [Int.toNat_natCast, ← hD] at hM
    have HD := Aside0.mk hD
    clear hD
    have HM := Aside0.mk (hM.weak F.out.2.1)
    have HC := Aside0.mk hc
    have HN := Aside0.mk hn
    obtain ⟨i3, hi3, hy0, hy1, hy2⟩ := info_parts info3
    have hmk := run_make (P := Try.prog) w1 22 3 i3 (.int .i64 0) Try.underlying22 hi3 hy0 .i64 .i64 (N : Int) (N : Int) (by omega) (by omega) (by rw [hy2]; omega) (by omega)
    rw [hy1, Int.toNat_natCast, Nat.mul_one, show (Value.int .i64 0).cells = #[.int .i64 0] from rfl] at hmk
    have k0 : w1.cell? ⟨w.heap.size, 0, none⟩ = some (.int .i64 N) := (blk_cell F.out.1 0).trans rfl
    have hYb := (Below.refl _ w1).alloc (Nat.le_refl _) (.cells (madeCells #[.int .i64 0] N) 3)
    have HR := Aside0.mk (show Row (w1.alloc (.cells (madeCells #[.int .i64 0] N) 3)) w1.heap.size N (midI D 0 0) from ⟨_, blk_new w1 _, fun k hk => by
      rw [made_rep, List.getElem?_toArray, List.getElem?_replicate, if_pos hk, midI_zero]; rfl⟩)
    have HMY := Aside0.mk (HM.out.below hYb)
    have HBY := Aside0.mk (below_step F.out.2.2 hYb)
    have HLT := Aside0.mk (show ∀ j, j < N → rows j < w1.heap.size from fun j hj => by obtain ⟨cur, hcc, _⟩ := HM.out.inner j hj; exact blk_lt hcc)
    have HSZ := Aside0.mk F.out.2.2.size
    clear hc hv hi3 hy0 hy1 hy2 hYb hM HM HT
    simp only [errC]
    go_wp2_with fail
    generalize w1.alloc (.cells (madeCells #[.int .i64 0] N) 3) = Y at *
    obtain ⟨o, ho⟩ : ∃ o, o = w1.heap.size := ⟨_, rfl⟩
    rw [← ho] at HR HLT HSZ ⊢
    clear ho hmk k0
    go_loopg [24] N (fun kq v wr => ∃ i : Nat, v = .int .i64 (i : Int) ∧ Aside0 (i + kq = N) ∧ Aside0 (Row wr o N (midI D i 0)) ∧ Aside0 (Mat wr w.heap.size g N rows caps D) ∧ Aside0 (Below w.heap.size w wr))
    case atStart => exact ⟨0, rfl, ⟨by omega⟩, HR, HMY, HBY⟩
    case round =>
      clear HR HMY HBY
      obtain ⟨i, rfl, HKI, HR, HM, HW⟩ := hrel
      by_cases hi : i < N
      · have hib : decide ((i : Int) < (N : Int)) = true := decide_eq_true (by omega)
        have q1 := eq_true (show (i : Int) < (N : Int) by omega)
        have q2 := eq_true (show (0 : Int) ≤ (i : Int) by omega)
        have y0 := HM.out.row hi
        have HII := Aside0.mk hi
        clear hi
        go_wp2_with fail
        clear y0
        obtain ⟨wo, rfl⟩ : ∃ wo : World, wo = wr := ⟨_, rfl⟩
        go_loopg [30] N (fun kq v wr => ∃ k : Nat, v = .int .i64 (k : Int) ∧ Aside0 (k + kq = N) ∧ Aside0 (Row wr o N (midI D i k)) ∧ Aside0 (Mat wr w.heap.size g N rows caps D) ∧ Aside0 (Below w.heap.size w wr))
        case atStart => exact ⟨0, rfl, ⟨by omega⟩, HR, HM, HW⟩
        case round =>
          clear HR HM HW wo
          obtain ⟨k, rfl, HKK, HR, HM, HW⟩ := hrel
          by_cases hk : k < N
          · have hkb : decide ((k : Int) < (N : Int)) = true := decide_eq_true (by omega)
            have q3 := eq_true (show (k : Int) < (N : Int) by omega)
            have q4 := eq_true (show (0 : Int) ≤ (k : Int) by omega)
            have y0 := HM.out.cell HII.out hk
            have y1 := HR.out.cell hk
            have y2 := HR.out.frozen k
            have HKL := Aside0.mk hk
            have HST := Aside0.mk (midI_step D i k)
            have hk17 : k + 1 ≤ 17 := by have := HN.out; omega
            clear hk
            go_wp2_with fail
            go_roundg (N - (k + 1))
            case measure => have := HKK.out; have := HKL.out; omega
            case rel => exact ⟨k + 1, by go_num, ⟨by have := HKK.out; have := HKL.out; omega⟩, ⟨by rw [← HST.out]; exact HR.out.put HKL.out _⟩, ⟨HM.out.far (fun j hj => Nat.ne_of_lt (HLT.out j hj)) (by obtain ⟨cur, hc1, _⟩ := HM.out.outer; obtain ⟨cur2, hc2, _⟩ := HR.out; exact blk_ne hc2 hc1 (by decide)) _⟩, ⟨HW.out.setCell (p := ⟨o, k, none⟩) HSZ.out _⟩⟩
          · have hkb : decide ((k : Int) < (N : Int)) = false := decide_eq_false (by omega)
            have hkn : k = N := by have := HKK.out; omega
            have hi17 : i + 1 ≤ 17 := by have := HII.out; have := HN.out; omega
            go_wp2_with fail
            go_roundg (N - (i + 1))
            case measure => have := HKI.out; have := HII.out; omega
            case rel => exact ⟨i + 1, by go_num, ⟨by have := HKI.out; have := HII.out; omega⟩, ⟨(hkn ▸ HR.out).ext (fun j hj => midI_full D i N j hj)⟩, HM, HW⟩
      · have hib : decide ((i : Int) < (N : Int)) = false := decide_eq_false (by omega)
        have hin : i = N := by have := HKI.out; omega
        clear hi
        go_wp2_with fail
        go_ret2
        exact ⟨_, by rw [HC.out]; rfl, fun _ => ⟨o, rfl, HSZ.out, by have := HR.out; rw [hin, midI_zero] at this; rw [Int.toNat_natCast, ← HD.out]; exact this⟩, (fun h => absurd (HC.out.symm.trans h) (by decide)), HW.out⟩
end Go.Proofs.Ytlokeimfmbgigaa.Bk
