/- The parser's program, the expansion of a word. Conditions: those that each theorem names. -/
import Derived.Test.YtfibaopngpfmjaaGreatDoorRzA8
import Derived.Defers
import Derived.Recover
import Derived.Test.YtfibaopngpfmjaaGreatDoorRzA5
import Derived.Lib.SplitLaws
set_option linter.unusedVariables false
set_option linter.unusedSimpArgs false
set_option maxRecDepth 100000
set_option maxHeartbeats 8000000
namespace Go.Proofs.YtfibaopngpfmjaaGreatDoor
open Go.RowKit Go.Proofs
/-- The deferred closure in a frame that returns. -/
theorem items_idle (p q r : Addr) (w : World) :
  CallsD Tryz.prog 43 #[.pointer (some p), .pointer (some q), .pointer (some r)] .returning w fun e u' w' => e = .returned (.tuple #[]) ∧ u' = .returning ∧ w' = w := by
 refine callsD_of_wpS Tryz.func43 rfl fun c₀ cs hu => ?_
 apply wpS_seq
 apply wpS_region
 simp [wpOpsS, go_sem, recoverD, hu, Tryz.ntmps43, Exit.thenS]
 apply wpS_seq
 apply wpS_region
 simp [wpOpsS, go_sem, Exit.thenS]
 refine wpS_cond (t := false) (by simp [Act.eval, Array.replicate]) ?_
 simp only [Bool.false_eq_true, if_false]
 refine wpS_of_wp (wp_skip ?_)
 cases c₀
 simp_all [bodyPostS, results, Tryz.results43]
/-- What is returned: the command, no place, no error. -/
def ItmSays (w : World) (l : List Tok) (e : Ending) (w' : World) : Prop :=
 ∃ (p : Int) (ao : Option Addr) (cap : Nat) (co : Option Addr) (cc : Nat), e = .returned (.tuple #[.slice co 1 cc, .int .i64 0, .int .i64 0]) ∧ w'.ownsRow w.heap.size 31 6 (.slice co 1 cc) 1 [.int .i64 1, .int .i64 p, .string (T []), .slice ao l.length cap, .slice none 0 0, .slice none 0 0] ∧ w'.ownsRow w.heap.size 36 5 (.slice ao l.length cap) l.length (wds l) ∧ Below w.heap.size w w'
theorem items_any (B q : Nat) (x : ByteArray) (tv : Value) (m : Int) (l : List Tok) (w : World) (hown : w.ownsRow B 132 4 tv l.length (toks l)) (hl : l.length ≤ 900) (hl0 : 0 < l.length) (hw : Wds l) (he : tkAt l 0 = echoTok q) (hm : w.cell? ⟨0, 0, none⟩ = some (.int .i64 m)) :
  Calls Tryz.prog 16 #[.string x, tv] w fun e w' => ItmSays w l e w' := by
 have hmf : ∀ (fn : Fn) (first cap : Array Value) (w : World), (Instr.makeFunc fn first cap).run Tryz.prog w = .ok (.func fn first cap) w := fun _ _ _ _ => rfl
 have hm0 : 0 < w.heap.size := block_lt_of_cell hm
 obtain ⟨ao, cap, rfl, _⟩ := own_form hown
 have HO := lh hown
 have HD := lh (fun (W : World) h => documents_any B x (.slice ao l.length cap) l W h hl hl0 hw)
 have HLI := lh (fun (g : Nat) (W : World) (h : PrS W g l 0) hm => list_any g q m l W h hl hl0 hw he hm)
 have HM := lh hm
 clear hown hm he hw
 go_enter_defers Tryz.func16, Tryz.ntmps16
 go_wp2_with fail
 have HB1 := lh (bnext (bnext (alloc_below w (.cells #[.slice none 0 0] 23)) (alloc_below _ (.cells #[.int .i64 0] 3))) (alloc_below _ (.cells #[.int .i64 0] 24)))
 have HR1 : RowKit.Hid ((((w.alloc (.cells #[.slice none 0 0] 23)).alloc (.cells #[.int .i64 0] 3)).alloc (.cells #[.int .i64 0] 24)).heap[w.heap.size]? = some (.cells #[.slice none 0 0] 23 (0, 0))) := lh ((Lib.alloc_old _ _ _ (by simp; omega)).trans ((Lib.alloc_old _ _ _ (by simp)).trans (heap_alloc_new w _)))
 have HR2 : RowKit.Hid ((((w.alloc (.cells #[.slice none 0 0] 23)).alloc (.cells #[.int .i64 0] 3)).alloc (.cells #[.int .i64 0] 24)).heap[w.heap.size + 1]? = some (.cells #[.int .i64 0] 3 (0, 0))) := lh ((Lib.alloc_old _ _ _ (by simp)).trans (by
  have := heap_alloc_new (w.alloc (.cells #[.slice none 0 0] 23)) (.cells #[.int .i64 0] 3)
  simpa using this))
 have HR3 : RowKit.Hid ((((w.alloc (.cells #[.slice none 0 0] 23)).alloc (.cells #[.int .i64 0] 3)).alloc (.cells #[.int .i64 0] 24)).heap[w.heap.size + 1 + 1]? = some (.cells #[.int .i64 0] 24 (0, 0))) := lh (by
  have := heap_alloc_new ((w.alloc (.cells #[.slice none 0 0] 23)).alloc (.cells #[.int .i64 0] 3)) (.cells #[.int .i64 0] 24)
  simpa using this)
 generalize hw1 : World.alloc _ _ = w1 at *
 clear hw1
 have ho1 := own_next HO.out HB1.out
 (with_reducible refine (HD.out _ ho1).mono ?_); rintro e w2 ⟨dao, dn, dc, rfl, b2⟩
 have HO2 := lh (own_next ho1 b2)
 have HR12 := lh ((b2.block _ (row_ltP HR1.out)).trans HR1.out)
 have HR22 := lh ((b2.block _ (row_ltP HR2.out)).trans HR2.out)
 have HR32 := lh ((b2.block _ (row_ltP HR3.out)).trans HR3.out)
 have HB2 := lh (bnext HB1.out b2)
 clear b2 ho1 HO HR1 HR2 HR3 HB1 HD
 go_wp2_with fail
 have HP3 := lh (show PrS (w2.alloc (.cells #[.string x, .slice ao l.length cap, .slice dao dn dc, .int .i64 0] 104)) w2.heap.size l 0 from
  ⟨x, .slice ao l.length cap, .slice dao dn dc, B, heap_alloc_new w2 _, HO2.out.alloc _, fun e => by have := (HO2.out.lt _ e).2; omega⟩)
 have hb3 := alloc_below w2 (.cells #[.string x, .slice ao l.length cap, .slice dao dn dc, .int .i64 0] 104)
 have HR13 := lh ((hb3.block _ (row_ltP HR12.out)).trans HR12.out)
 have HR23 := lh ((hb3.block _ (row_ltP HR22.out)).trans HR22.out)
 have HR33 := lh ((hb3.block _ (row_ltP HR32.out)).trans HR32.out)
 have HB3 := lh (bnext HB2.out hb3)
 have hg3 : w.heap.size + 1 + 1 < w2.heap.size := row_ltP HR32.out
 have hm3 := (HB3.out.cell (p := ⟨0, 0, none⟩) hm0).trans HM.out
 clear hb3 HO2 HR12 HR22 HR32 HB2
 generalize hw3 : w2.alloc _ = w3 at *
 generalize w2.heap.size = g at *
 clear hw3
 have hp3 := HP3.out
 (with_reducible refine (HLI.out _ _ hp3 hm3).mono ?_); rintro e w4 ⟨p, wo, wc, cv, rfl, hc4, ho4, hs4, hg4⟩
 obtain ⟨co, cc, rfl, _⟩ := own_form hc4
 have HC4 := lh (owns_lower hc4 HB3.out.size)
 have HO4 := lh (owns_lower ho4 HB3.out.size)
 have HS4 := lh hs4
 have HR14 := lh ((hg4.block _ (row_ltP HR13.out) (fun e => by cases e; omega)).trans HR13.out)
 have HR24 := lh ((hg4.block _ (row_ltP HR23.out) (fun e => by cases e; omega)).trans HR23.out)
 have HR34 := lh ((hg4.block _ (row_ltP HR33.out) (fun e => by cases e; omega)).trans HR33.out)
 have HB4 := lh (show Below w.heap.size w w4 from HB3.out.trans ((below_of_grown hg4 hp3.lt).mono (by omega)))
 clear hc4 ho4 hs4 hg4 HP3 HR13 HR23 HR33 HB3 hm3 hp3 HLI
 obtain ⟨_, _, _, _, hr4, _, _⟩ := HS4.out
 obtain ⟨⟨p0, p1, p2, p3⟩, _⟩ := hr4.reads
 have a0 : w4.cell? ⟨w.heap.size, 0, none⟩ = some (.slice none 0 0) := by rw [Lib.cell_of_heap HR14.out]; rfl
 have a1 : w4.cell? ⟨w.heap.size + 1, 0, none⟩ = some (.int .i64 0) := by rw [Lib.cell_of_heap HR24.out]; rfl
 have a2 : w4.cell? ⟨w.heap.size + 1 + 1, 0, none⟩ = some (.int .i64 0) := by rw [Lib.cell_of_heap HR34.out]; rfl
 have y0 : w4.frozen? ⟨w.heap.size, 0, none⟩ = false := Lib.frozen_of_heap HR14.out _
 have y1 : w4.frozen? ⟨w.heap.size + 1, 0, none⟩ = false := Lib.frozen_of_heap HR24.out _
 have y2 : w4.frozen? ⟨w.heap.size + 1 + 1, 0, none⟩ = false := Lib.frozen_of_heap HR34.out _
 have hn1 : g ≠ w.heap.size := by omega
 have hn2 : g ≠ w.heap.size + 1 := by omega
 have hn3 : g ≠ w.heap.size + 1 + 1 := by omega
 clear hr4
 go_wp2_with fail
 have hf1 := heap_setCell_same w4 w.heap.size 0 _ _ (.slice co 1 cc) HR14.out
 have hf2 := heap_setCell_same _ w.heap.size 0 _ _ (.slice co 1 cc) hf1
 have HG5 := lh (grown_setG (grown_setG (below_grownBy (Below.refl w4.heap.size w4) (some w.heap.size)) 0 (.slice co 1 cc)) 0 (.slice co 1 cc))
 generalize hw5 : (w4.setCell ⟨w.heap.size, 0, none⟩ (.slice co 1 cc)).setCell ⟨w.heap.size, 0, none⟩ (.slice co 1 cc) = w5 at *
 have hr2 := (HG5.out.block (w.heap.size + 1) (row_ltP HR24.out) (fun e => by have := Option.some.inj e; omega)).trans HR24.out
 have hr3 := (HG5.out.block (w.heap.size + 1 + 1) (row_ltP HR34.out) (fun e => by have := Option.some.inj e; omega)).trans HR34.out
 refine leaves_cons (f := 43) (args := #[.pointer (some ⟨w.heap.size, 0, none⟩), .pointer (some ⟨w.heap.size + 1, 0, none⟩), .pointer (some ⟨w.heap.size + 1 + 1, 0, none⟩)]) (by simp) (by simp [go_sem]) ?_
 refine (items_idle _ _ _ _).mono ?_
 rintro e u' w'' ⟨rfl, rfl, rfl⟩
 have hq1 := (Below.heap_setCell (w5.setCell ⟨w.heap.size + 1, 0, none⟩ (.int .i64 0)) ⟨w.heap.size + 1 + 1, 0, none⟩ (.int .i64 0) w.heap.size (show w.heap.size ≠ w.heap.size + 1 + 1 by omega)).trans ((Below.heap_setCell w5 ⟨w.heap.size + 1, 0, none⟩ (.int .i64 0) w.heap.size (show w.heap.size ≠ w.heap.size + 1 by omega)).trans hf2)
 have hq2 := (Below.heap_setCell (w5.setCell ⟨w.heap.size + 1, 0, none⟩ (.int .i64 0)) ⟨w.heap.size + 1 + 1, 0, none⟩ (.int .i64 0) (w.heap.size + 1) (show w.heap.size + 1 ≠ w.heap.size + 1 + 1 by omega)).trans (heap_setCell_same w5 (w.heap.size + 1) 0 _ _ (.int .i64 0) hr2)
 have hq3 := heap_setCell_same (w5.setCell ⟨w.heap.size + 1, 0, none⟩ (.int .i64 0)) (w.heap.size + 1 + 1) 0 _ _ (.int .i64 0) ((Below.heap_setCell w5 ⟨w.heap.size + 1, 0, none⟩ (.int .i64 0) (w.heap.size + 1 + 1) (show w.heap.size + 1 + 1 ≠ w.heap.size + 1 by omega)).trans hr3)
 have q1 : ((w5.setCell ⟨w.heap.size + 1, 0, none⟩ (.int .i64 0)).setCell ⟨w.heap.size + 1 + 1, 0, none⟩ (.int .i64 0)).cell? ⟨w.heap.size, 0, none⟩ = some (.slice co 1 cc) := by rw [Lib.cell_of_heap hq1]; rfl
 have q2 : ((w5.setCell ⟨w.heap.size + 1, 0, none⟩ (.int .i64 0)).setCell ⟨w.heap.size + 1 + 1, 0, none⟩ (.int .i64 0)).cell? ⟨w.heap.size + 1, 0, none⟩ = some (.int .i64 0) := by rw [Lib.cell_of_heap hq2]; rfl
 have q3 : ((w5.setCell ⟨w.heap.size + 1, 0, none⟩ (.int .i64 0)).setCell ⟨w.heap.size + 1 + 1, 0, none⟩ (.int .i64 0)).cell? ⟨w.heap.size + 1 + 1, 0, none⟩ = some (.int .i64 0) := by rw [Lib.cell_of_heap hq3]; rfl
 have hg6 := grown_setG (below_grownBy (Below.refl w5.heap.size w5) (some (w.heap.size + 1))) 0 (.int .i64 0)
 have hg7 := grown_setG (below_grownBy (Below.refl _ (w5.setCell ⟨w.heap.size + 1, 0, none⟩ (.int .i64 0))) (some (w.heap.size + 1 + 1))) 0 (.int .i64 0)
 have hr3' := (hg6.block (w.heap.size + 1 + 1) (row_ltP hr3) (fun e => by have := Option.some.inj e; omega)).trans hr3
 have hC := ((HC4.out.kept HG5.out (Or.inr (own_neP HC4.out HR14.out (by decide)))).kept hg6 (Or.inr (own_neP (HC4.out.kept HG5.out (Or.inr (own_neP HC4.out HR14.out (by decide)))) hr2 (by decide))))
 have hC7 := hC.kept hg7 (Or.inr (own_neP hC hr3' (by decide)))
 have hO := ((HO4.out.kept HG5.out (Or.inr (own_neP HO4.out HR14.out (by decide)))).kept hg6 (Or.inr (own_neP (HO4.out.kept HG5.out (Or.inr (own_neP HO4.out HR14.out (by decide)))) hr2 (by decide))))
 have hO7 := hO.kept hg7 (Or.inr (own_neP hO hr3' (by decide)))
 have hB : Below w.heap.size w w5 := by rw [← hw5]; exact (HB4.out.setCell (p := ⟨w.heap.size, 0, none⟩) (Nat.le_refl _) _).setCell (p := ⟨w.heap.size, 0, none⟩) (Nat.le_refl _) _
 have hB7 : Below w.heap.size w ((w5.setCell ⟨w.heap.size + 1, 0, none⟩ (.int .i64 0)).setCell ⟨w.heap.size + 1 + 1, 0, none⟩ (.int .i64 0)) := (hB.setCell (p := ⟨w.heap.size + 1, 0, none⟩) (by show _ ≤ w.heap.size + 1; omega) _).setCell (p := ⟨w.heap.size + 1 + 1, 0, none⟩) (by show _ ≤ w.heap.size + 1 + 1; omega) _
 have hfin : ItmSays w l (.returned (.tuple #[.slice co 1 cc, .int .i64 0, .int .i64 0])) ((w5.setCell ⟨w.heap.size + 1, 0, none⟩ (.int .i64 0)).setCell ⟨w.heap.size + 1 + 1, 0, none⟩ (.int .i64 0)) := ⟨p, wo, wc, co, cc, rfl, hC7, hO7, hB7⟩
 clear hC hO hB hq1 hq2 hq3
 simp [Leaves, settle, results, Tryz.results16, go_sem, q1, q2, q3]
 exact hfin
theorem wds_get (l : List Tok) (j : Nat) (t : Tok) (h : l[j]? = some t) (f : Nat) (hf : f < 5) : (wds l)[j * 5 + f]? = (twc t)[f]? := by
 induction l generalizing j with
 | nil => simp at h
 | cons x l ih =>
  have e : wds (x :: l) = twc x ++ wds l := rfl
  have e4 : (twc x).length = 5 := rfl
  rw [e]
  cases j with
  | zero =>
   simp at h; subst h
   rw [List.getElem?_append_left (by omega)]
   simp
  | succ j =>
   simp at h
   rw [List.getElem?_append_right (by omega), e4, show (j + 1) * 5 + f - 5 = j * 5 + f from by omega]
   exact ih j h
/-- The words' cells, from an address on. -/
def WCells (W : World) (k : Nat) (l : List Tok) : Prop :=
 ∀ j, j < l.length → ∃ t, l[j]? = some t ∧ W.cell? ⟨k, j * 5, none⟩ = some (.int .i64 1) ∧ W.cell? ⟨k, j * 5 + 1, none⟩ = some (.string (T t.text)) ∧ W.cell? ⟨k, j * 5 + 2, none⟩ = some (.string (T t.quoted)) ∧ W.cell? ⟨k, j * 5 + 3, none⟩ = some (.slice none 0 0) ∧ W.cell? ⟨k, j * 5 + 4, none⟩ = some (.slice none 0 0)
theorem wcells_of {W : World} {B : Nat} {v : Value} {l : List Tok} (h : W.ownsRow B 36 5 v l.length (wds l)) (hl : 0 < l.length) : ∃ k cap, v = .slice (some ⟨k, 0, none⟩) l.length cap ∧ k < W.heap.size ∧ WCells W k l := by
 obtain ⟨ao, cap, rfl, hc⟩ := own_form h
 obtain ⟨k, rfl, hcell⟩ := hc (by omega)
 have hw : WCells W k l := by
  intro j hj
  obtain ⟨t, ht⟩ : ∃ t, l[j]? = some t := ⟨_, List.getElem?_eq_getElem hj⟩
  refine ⟨t, ht, ?_, ?_, ?_, ?_, ?_⟩
  ·exact hcell _ _ (by have := wds_get l j t ht 0 (by omega); simpa [twc] using this)
  ·exact hcell _ _ (by have := wds_get l j t ht 1 (by omega); simpa [twc] using this)
  ·exact hcell _ _ (by have := wds_get l j t ht 2 (by omega); simpa [twc] using this)
  ·exact hcell _ _ (by have := wds_get l j t ht 3 (by omega); simpa [twc] using this)
  ·exact hcell _ _ (by have := wds_get l j t ht 4 (by omega); simpa [twc] using this)
 obtain ⟨t, _, c0, _⟩ := hw 0 hl
 exact ⟨k, cap, rfl, block_lt_of_cell c0, hw⟩
theorem WCells.next {W W' : World} {k : Nat} {l : List Tok} {B : Nat} (h : WCells W k l) (hb : Below B W W') (hk : k < B) : WCells W' k l := by
 intro j hj
 obtain ⟨t, h0, h1, h2, h3, h4, h5⟩ := h j hj
 exact ⟨t, h0, cell_below hb hk h1, cell_below hb hk h2, cell_below hb hk h3, cell_below hb hk h4, cell_below hb hk h5⟩
theorem size_nil (w : World) : Calls Tryz.prog 47 #[.slice none 0 0] w fun e w' => e = .returned (.int .i64 0) ∧ w' = w := by
 go_enter Tryz.func47, Tryz.ntmps47
 go_wp2_with fail
 refine wp_loop_rounds 1 ?_
 rw [rounds_succ]
 go_wp2_with fail
 go_ret
 exact ⟨rfl, rfl⟩
theorem wordSize_one (x y : ByteArray) (w : World) : Calls Tryz.prog 98 #[.agg #[.int .i64 1, .string x, .string y, .slice none 0 0, .slice none 0 0]] w fun e w' => e = .returned (.int .i64 1) ∧ Below w.heap.size w w' := by
 have HB := lh (alloc_below w (.cells #[.int .i64 1, .string x, .string y, .slice none 0 0, .slice none 0 0] 36))
 have HN := lh size_nil
 go_enter Tryz.func98, Tryz.ntmps98
 go_wp2_with fail
 (with_reducible refine (HN.out _).mono ?_); rintro e w1 ⟨rfl, rfl⟩
 go_wp2_with fail
 refine wp_loop_rounds 1 ?_
 rw [rounds_succ]
 go_wp2_with fail
 go_ret
 exact ⟨rfl, HB.out⟩
theorem size_any (p : Int) (cb cc k wc : Nat) (l : List Tok) (w : World) (hl : l.length ≤ 900)
  (hc : w.cell? ⟨cb, 0, none⟩ = some (.int .i64 1) ∧ w.cell? ⟨cb, 1, none⟩ = some (.int .i64 p) ∧ w.cell? ⟨cb, 2, none⟩ = some (.string (T [])) ∧ w.cell? ⟨cb, 3, none⟩ = some (.slice (some ⟨k, 0, none⟩) l.length wc) ∧ w.cell? ⟨cb, 4, none⟩ = some (.slice none 0 0) ∧ w.cell? ⟨cb, 5, none⟩ = some (.slice none 0 0)) (hk : k < w.heap.size) (hw : WCells w k l) :
  Calls Tryz.prog 47 #[.slice (some ⟨cb, 0, none⟩) 1 cc] w fun e w' => e = .returned (.int .i64 (1 + (l.length : Int))) ∧ Below w.heap.size w w' := by
 obtain ⟨c0, c1, c2, c3, c4, c5⟩ := hc
 have HB0 := lh (alloc_below w (.cells #[.int .i64 1, .int .i64 p, .string (T []), .slice (some ⟨k, 0, none⟩) l.length wc, .slice none 0 0, .slice none 0 0] 31))
 have HN0 := lh (heap_alloc_new w (.cells #[.int .i64 1, .int .i64 p, .string (T []), .slice (some ⟨k, 0, none⟩) l.length wc, .slice none 0 0, .slice none 0 0] 31))
 have HZ := lh size_nil
 have HW1 := lh (fun (x y : ByteArray) (W : World) => wordSize_one x y W)
 have HC := lh hw
 clear hw
 go_enter Tryz.func47, Tryz.ntmps47
 go_wp2_with fail
 refine wp_loop_rounds 2 ?_
 rw [rounds_succ]
 go_upto_region 5 with fail
 generalize hw1 : w.alloc _ = w1 at *
 clear hw1 c0 c1 c2 c3 c4 c5
 have hklt := hk
 have hx1 : IntKind.i64.wrap 1 = 1 := by decide
 have hx2 : IntKind.i64.wrap 0 = 0 := by decide
 have hlt1 : w.heap.size < w1.heap.size := row_ltP HN0.out
 obtain ⟨c0, c1, c2, c3, c4, c5⟩ := six_cells HN0.out
 go_quiet ((go_at_call 47; refine Calls.quiet_of_same (HZ.out _)))
 go_wp2_with fail
 have HC1 := lh (HC.out.next HB0.out hk)
 have HBd := lh (show Below w1.heap.size w1 (w1.drewN nq) from below_drewN w1 nq)
 have HL := lh hl
 have hk1 : k < w1.heap.size := by omega
 have hnb : (l.length : Int) ≤ 900 := by omega
 clear HC c0 c1 c2 c3 c4 c5 hl
 generalize hln : l.length = n at *
 generalize hw2 : w1.drewN nq = w2 at *
 clear hw2
 go_loopw [3, 29] (fun s3 s29 W => ∃ j : Nat, j ≤ n ∧ s3 = .int .i64 (1 + (j : Int)) ∧ s29 = .int .i64 j ∧ Below w1.heap.size w1 W) (fun _ i _ => n - (intOf i).toNat)
 case atStart => exact ⟨0, Nat.zero_le _, rfl, rfl, HBd.out⟩
 case round =>
  obtain ⟨j, hj, rfl, rfl, hb⟩ := hrel
  have HB := lh hb
  by_cases hlt : j < n
  ·obtain ⟨t, ht, d0, d1, d2, d3, d4⟩ := (HC1.out.next hb hk1) j (by omega)
   have HT := lh (fun (W : World) => wordSize_one (T t.text) (T t.quoted) W)
   have hlt2 : (j : Int) < (n : Int) := by omega
   clear ht hb HBd
   go_wp2_with fail
   have HB2 := lh (show Below w1.heap.size w1 (wr.alloc (.cells #[.int .i64 1, .string (T t.text), .string (T t.quoted), .slice none 0 0, .slice none 0 0] 36)) from HB.out.alloc HB.out.size _)
   (with_reducible refine (HT.out _).mono ?_); rintro e w3 ⟨rfl, b3⟩
   have HB3 := lh (bnext HB2.out b3)
   clear b3 HB2 HB d0 d1 d2 d3 d4
   have hx3 : IntKind.i64.wrap (1 + (j : Int) + 1) = 1 + ((j + 1 : Nat) : Int) := by rw [IntWalk.i64_in _ (by omega)]; omega
   go_wp2_with fail
   go_roundw
   case rel => exact ⟨j + 1, hlt, by first | rfl | (rw [hx3]) | (congr 1; omega), by first | rfl | (congr 1), HB3.out⟩
   case measure =>
    simp only [intOf]
    omega
  ·have hge : (n : Int) ≤ (j : Int) := by omega
   have hjn : j = n := by omega
   subst hjn
   obtain ⟨c0, c1, c2, c3, c4, c5⟩ := six_cells ((hb.block _ hlt1).trans HN0.out)
   clear hb
   go_wp2_with fail
   refine wp_loop_rounds 1 ?_
   rw [rounds_succ]
   go_wp2_with fail
   rw [rounds_succ]
   go_wp2_with fail
   go_ret
   exact ⟨by rw [hln]; rfl, (HB0.out.trans (HB.out.mono (Nat.le_of_lt hlt1)))⟩
theorem wordDepth_one (x y : ByteArray) (w : World) : Calls Tryz.prog 101 #[.agg #[.int .i64 1, .string x, .string y, .slice none 0 0, .slice none 0 0]] w fun e w' => e = .returned (.int .i64 1) ∧ Below w.heap.size w w' := by
 have HB := lh (alloc_below w (.cells #[.int .i64 1, .string x, .string y, .slice none 0 0, .slice none 0 0] 36))
 go_enter Tryz.func101, Tryz.ntmps101
 go_wp2_with fail
 refine wp_loop_rounds 1 ?_
 rw [rounds_succ]
 go_wp2_with fail
 refine wp_loop_rounds 1 ?_
 rw [rounds_succ]
 go_wp2_with fail
 go_ret
 exact ⟨rfl, HB.out⟩
theorem depth_any (p : Int) (k wc : Nat) (l : List Tok) (w : World) (hl : l.length ≤ 900) (hk : k < w.heap.size) (hw : WCells w k l) :
  Calls Tryz.prog 50 #[.agg #[.int .i64 1, .int .i64 p, .string (T []), .slice (some ⟨k, 0, none⟩) l.length wc, .slice none 0 0, .slice none 0 0]] w fun e w' => (∃ d : Int, e = .returned (.int .i64 d) ∧ d ≤ 2) ∧ Below w.heap.size w w' := by
 have HB0 := lh (alloc_below w (.cells #[.int .i64 1, .int .i64 p, .string (T []), .slice (some ⟨k, 0, none⟩) l.length wc, .slice none 0 0, .slice none 0 0] 31))
 have HN0 := lh (heap_alloc_new w (.cells #[.int .i64 1, .int .i64 p, .string (T []), .slice (some ⟨k, 0, none⟩) l.length wc, .slice none 0 0, .slice none 0 0] 31))
 have HC := lh hw
 clear hw
 go_enter Tryz.func50, Tryz.ntmps50
 go_wp2_with fail
 refine wp_loop_rounds 1 ?_
 rw [rounds_succ]
 go_wp2_with fail
 generalize hw1 : w.alloc _ = w1 at *
 clear hw1
 have hlt1 : w.heap.size < w1.heap.size := row_ltP HN0.out
 have HC1 := lh (HC.out.next HB0.out hk)
 have hk1 : k < w1.heap.size := by omega
 have hnb : (l.length : Int) ≤ 900 := by omega
 have HBd := lh (Below.refl w1.heap.size w1)
 clear HC hl
 generalize hln : l.length = n at *
 go_loopw [3, 25] (fun s3 s25 W => ∃ j : Nat, j ≤ n ∧ (s3 = .int .i64 0 ∨ s3 = .int .i64 1) ∧ s25 = .int .i64 j ∧ Below w1.heap.size w1 W) (fun _ i _ => n - (intOf i).toNat)
 case atStart => exact ⟨0, Nat.zero_le _, .inl rfl, rfl, HBd.out⟩
 case round =>
  obtain ⟨j, hj, hs3, rfl, hb⟩ := hrel
  have HB := lh hb
  by_cases hlt : j < n
  ·obtain ⟨t, ht, d0, d1, d2, d3, d4⟩ := (HC1.out.next hb hk1) j (by omega)
   have HT := lh (fun (W : World) => wordDepth_one (T t.text) (T t.quoted) W)
   have hlt2 : (j : Int) < (n : Int) := by omega
   clear ht hb HBd
   rcases hs3 with rfl | rfl
   all_goals
    go_wp2_with fail
    have HB2 := lh (show Below w1.heap.size w1 (wr.alloc (.cells #[.int .i64 1, .string (T t.text), .string (T t.quoted), .slice none 0 0, .slice none 0 0] 36)) from HB.out.alloc HB.out.size _)
    (with_reducible refine (HT.out _).mono ?_); rintro e w3 ⟨rfl, b3⟩
    have HB3 := lh (bnext HB2.out b3)
    clear b3 HB2 HB d0 d1 d2 d3 d4
    go_wp2_with fail
    go_roundw
    case rel => exact ⟨j + 1, hlt, .inr rfl, rfl, HB3.out⟩
    case measure =>
     simp only [intOf]
     omega
  ·have hge : (n : Int) ≤ (j : Int) := by omega
   have hjn : j = n := by omega
   subst hjn
   obtain ⟨c0, c1, c2, c3, c4, c5⟩ := six_cells ((hb.block _ hlt1).trans HN0.out)
   clear hb
   rcases hs3 with rfl | rfl
   all_goals
    go_wp2_with fail
    refine wp_loop_rounds 1 ?_
    rw [rounds_succ]
    go_wp2_with fail
    go_ret
    refine ⟨⟨_, rfl, ?_⟩, (HB0.out.trans (HB.out.mono (Nat.le_of_lt hlt1)))⟩
    omega
theorem fits1_any (p : Int) (k wc : Nat) (l : List Tok) (w : World) (hl : l.length ≤ 900) (hk : k < w.heap.size) (hw : WCells w k l) :
  Calls Tryz.prog 49 #[.agg #[.int .i64 1, .int .i64 p, .string (T []), .slice (some ⟨k, 0, none⟩) l.length wc, .slice none 0 0, .slice none 0 0]] w fun e w' => e = .returned (.bool false) ∧ Below w.heap.size w w' := by
 have HB := lh (alloc_below w (.cells #[.int .i64 1, .int .i64 p, .string (T []), .slice (some ⟨k, 0, none⟩) l.length wc, .slice none 0 0, .slice none 0 0] 31))
 have HD := lh (depth_any p k wc l (w.alloc (.cells #[.int .i64 1, .int .i64 p, .string (T []), .slice (some ⟨k, 0, none⟩) l.length wc, .slice none 0 0, .slice none 0 0] 31)) hl (by simp; omega) (hw.next HB.out hk))
 clear hw hl
 go_enter Tryz.func49, Tryz.ntmps49
 go_wp2_with fail
 (with_reducible refine HD.out.mono ?_); rintro e w1 ⟨⟨d, rfl, hd⟩, b1⟩
 have HB1 := lh (bnext HB.out b1)
 have hd2 : decide ((32 : Int) < d) = false := by rw [decide_eq_false_iff_not]; omega
 clear b1
 go_wp2_with fail
 go_ret
 exact ⟨by first | rfl | (rw [hd2]; rfl) | (congr 2), HB1.out⟩
/-- One command in memory, with the words of l. -/
def CmdIn (W : World) (cb k wc : Nat) (p : Int) (l : List Tok) : Prop :=
 (W.cell? ⟨cb, 0, none⟩ = some (.int .i64 1) ∧ W.cell? ⟨cb, 1, none⟩ = some (.int .i64 p) ∧ W.cell? ⟨cb, 2, none⟩ = some (.string (T [])) ∧ W.cell? ⟨cb, 3, none⟩ = some (.slice (some ⟨k, 0, none⟩) l.length wc) ∧ W.cell? ⟨cb, 4, none⟩ = some (.slice none 0 0) ∧ W.cell? ⟨cb, 5, none⟩ = some (.slice none 0 0)) ∧ cb < W.heap.size ∧ k < W.heap.size ∧ WCells W k l
theorem CmdIn.next {W W' : World} {cb k wc : Nat} {p : Int} {l : List Tok} (h : CmdIn W cb k wc p l) (hb : Below W.heap.size W W') : CmdIn W' cb k wc p l := by
 obtain ⟨⟨h0, h1, h2, h3, h4, h5⟩, hc, hk, hw⟩ := h
 exact ⟨⟨cell_below hb hc h0, cell_below hb hc h1, cell_below hb hc h2, cell_below hb hc h3, cell_below hb hc h4, cell_below hb hc h5⟩, Nat.lt_of_lt_of_le hc hb.size, Nat.lt_of_lt_of_le hk hb.size, hw.next hb hk⟩
theorem cmdin_of {W : World} {B1 B2 : Nat} {co ao : Option Addr} {cc cap : Nat} {p : Int} {l : List Tok} (hc : W.ownsRow B1 31 6 (.slice co 1 cc) 1 [.int .i64 1, .int .i64 p, .string (T []), .slice ao l.length cap, .slice none 0 0, .slice none 0 0])
  (hw : W.ownsRow B2 36 5 (.slice ao l.length cap) l.length (wds l)) (hl : 0 < l.length) : ∃ cb k wc, co = some ⟨cb, 0, none⟩ ∧ CmdIn W cb k wc p l := by
 obtain ⟨k, wc, e, hk, hwc⟩ := wcells_of hw hl
 cases e
 obtain ⟨co', cc', e, hcl⟩ := own_form hc
 cases e
 obtain ⟨cb, rfl, hcell⟩ := hcl (by omega)
 have c0 := hcell 0 _ rfl
 exact ⟨cb, k, cap, rfl, ⟨c0, hcell 1 _ rfl, hcell 2 _ rfl, hcell 3 _ rfl, hcell 4 _ rfl, hcell 5 _ rfl⟩, block_lt_of_cell c0, hk, hwc⟩
theorem indexFn_any (p : Int) (cb cc k wc : Nat) (l : List Tok) (w : World) (hl : l.length ≤ 900) (hc : CmdIn w cb k wc p l) :
  Calls Tryz.prog 100 #[.slice (some ⟨cb, 0, none⟩) 1 cc, .func (.func 49) #[] #[]] w fun e w' => e = .returned (.int .i64 (-1)) ∧ Below w.heap.size w w' := by
 obtain ⟨⟨c0, c1, c2, c3, c4, c5⟩, hcb, hk, hw⟩ := hc
 have HF := lh (fits1_any p k wc l w hl hk hw)
 clear hw
 go_enter Tryz.func100, Tryz.ntmps100
 go_wp2_with fail
 refine wp_loop_rounds 2 ?_
 rw [rounds_succ]
 go_wp2_with fail
 (with_reducible refine HF.out.mono ?_); rintro e w1 ⟨rfl, b1⟩
 have HB1 := lh b1
 clear b1
 go_wp2_with fail
 rw [rounds_succ]
 go_wp2_with fail
 go_ret
 exact ⟨rfl, HB1.out⟩
theorem contFn_any (p : Int) (cb cc k wc : Nat) (l : List Tok) (w : World) (hl : l.length ≤ 900) (hc : CmdIn w cb k wc p l) :
  Calls Tryz.prog 48 #[.slice (some ⟨cb, 0, none⟩) 1 cc, .func (.func 49) #[] #[]] w fun e w' => e = .returned (.bool false) ∧ Below w.heap.size w w' := by
 have HF := lh (indexFn_any p cb cc k wc l w hl hc)
 clear hc hl
 go_enter Tryz.func48, Tryz.ntmps48
 go_wp2_with fail
 (with_reducible refine HF.out.mono ?_); rintro e w1 ⟨rfl, b1⟩
 have HB1 := lh b1
 clear b1
 go_wp2_with fail
 go_ret
 exact ⟨rfl, HB1.out⟩
theorem fits_any (p : Int) (cb cc k wc : Nat) (l : List Tok) (w : World) (hl : l.length ≤ 900) (hc : CmdIn w cb k wc p l) :
  Calls Tryz.prog 17 #[.slice (some ⟨cb, 0, none⟩) 1 cc] w fun e w' => e = .returned (.bool true) ∧ Below w.heap.size w w' := by
 have HS := lh (size_any p cb cc k wc l w hl hc.1 hc.2.2.1 hc.2.2.2)
 have HF := lh (fun (W : World) (h : CmdIn W cb k wc p l) => contFn_any p cb cc k wc l W hl h)
 have HC := lh hc
 have hle : (1 : Int) + (l.length : Int) ≤ 1024 := by omega
 clear hc hl
 go_enter Tryz.func17, Tryz.ntmps17
 go_wp2_with fail
 (with_reducible refine HS.out.mono ?_); rintro e w1 ⟨rfl, b1⟩
 have HC1 := lh (HC.out.next b1)
 have HB1 := lh b1
 clear b1
 go_wp2_with fail
 have hc1 := HC1.out
 (with_reducible refine (HF.out _ hc1).mono ?_); rintro e w2 ⟨rfl, b2⟩
 have HB2 := lh (bnext HB1.out b2)
 clear b2
 go_wp2_with fail
 go_ret
 exact ⟨rfl, HB2.out⟩
theorem program_any (m : Int) (vs : List (List UInt8)) (w : World) (hv : vs.length ≤ 800) (hs : (Lx.prog (echo :: vs)).length ≤ 10000) (hm : w.cell? ⟨0, 0, none⟩ = some (.int .i64 m)) :
  Calls Tryz.prog 6 #[.string (T (Lx.prog (echo :: vs)))] w fun e w' => ∃ (l : List Tok) (p : Int) (cb cc k wc : Nat), e = .returned (.tuple #[.slice (some ⟨cb, 0, none⟩) 1 cc, .int .i64 0, .int .i64 0]) ∧ CmdIn w' cb k wc p l ∧ l.map Tok.key = (echo :: vs).map Lx.key ∧ Below w.heap.size w w' := by
 have hm0 : 0 < w.heap.size := block_lt_of_cell hm
 have HS := lh (scan_any (echo :: vs) w (by simp; omega) hs)
 have HM := lh hm
 clear hm hs
 generalize T (Lx.prog (echo :: vs)) = x at *
 go_enter Tryz.func6, Tryz.ntmps6
 go_wp2_with fail
 (with_reducible refine HS.out.mono ?_); rintro e w1 ⟨l, tv, rfl, ho, hkey, b1⟩
 have hlen : l.length = vs.length + 1 := by have := congrArg List.length hkey; simpa using this
 have hwd : Wds l := by
  intro t ht
  have h1 : t.key ∈ l.map Tok.key := List.mem_map_of_mem ht
  rw [hkey, List.mem_map] at h1
  obtain ⟨v, _, hv⟩ := h1
  exact (congrArg Prod.fst hv).symm
 obtain ⟨q, hq⟩ : ∃ q, tkAt l 0 = echoTok q := by
  cases l with
  | nil => simp at hlen
  | cons t r =>
   refine ⟨t.pos, ?_⟩
   have h1 : t.key = Lx.key echo := by
    rw [List.map_cons, List.map_cons] at hkey
    exact (List.cons.inj hkey).1
   obtain ⟨a, b, c, d⟩ := t
   have h2 := congrArg Prod.fst h1
   have h3 := congrArg (fun x => x.2.1) h1
   have h4 := congrArg (fun x => x.2.2) h1
   simp only [Tok.key, Lx.key] at h2 h3 h4
   show Tok.mk a b c d = Tok.mk 1 b echo [48, 48, 48, 48]
   rw [h2, h3, h4, show Lx.marks echo = [48, 48, 48, 48] from by decide]
 obtain ⟨ao, cap, rfl, _⟩ := own_form ho
 have HI := lh (items_any (w.heap.size + 1) q x (.slice ao l.length cap) m l w1 ho (by omega) (by omega) hwd hq ((b1.cell (p := ⟨0, 0, none⟩) hm0).trans HM.out))
 have HB1 := lh b1
 have HK := lh hkey
 have HFT := lh (fun (p : Int) (cb cc k wc : Nat) (W : World) (h : CmdIn W cb k wc p l) => fits_any p cb cc k wc l W (by omega) h)
 have hl0 : 0 < l.length := by omega
 clear b1 hkey ho hwd hq HS hlen
 go_wp2_with fail
 (with_reducible refine HI.out.mono ?_); rintro e w2 ⟨p, wo, wcap, co, cc, rfl, hc2, ho2, b2⟩
 obtain ⟨cb, k, wc, rfl, hci⟩ := cmdin_of hc2 ho2 hl0
 have HC2 := lh hci
 have HB2 := lh (bnext HB1.out b2)
 clear hc2 ho2 b2 hci HI HB1
 go_wp2_with fail
 have hc2 := HC2.out
 (with_reducible refine (HFT.out p cb cc k wc _ hc2).mono ?_); rintro e w3 ⟨rfl, b3⟩
 have HC3 := lh (HC2.out.next b3)
 have HB3 := lh (bnext HB2.out b3)
 clear b3 hc2 HC2 HB2 HFT
 go_wp2_with fail
 go_ret3
 exact ⟨l, p, cb, cc, k, wc, rfl, HC3.out, HK.out, HB3.out⟩
theorem eword_any (t : Tok) (w : World) (hq : t.quoted.length = t.text.length) :
  Calls Tryz.prog 20 #[.slice none 0 0, .int .i64 0, .agg #[.int .i64 1, .string (T t.text), .string (T t.quoted), .slice none 0 0, .slice none 0 0]] w fun e w' => ∃ b, e = .returned (.tuple #[.slice (some ⟨b, 0, none⟩) 1 1, .int .i64 0]) ∧ w'.cell? ⟨b, 0, none⟩ = some (.string (T t.text)) ∧ w'.cell? ⟨b, 1, none⟩ = some (.string (T t.quoted)) ∧ Below w.heap.size w w' := by
 have h1 : (T t.text).size = t.text.length := T_size _
 have h2 : (T t.quoted).size = t.text.length := by rw [T_size, hq]
 have HB := lh (bnext (alloc_below w (.cells #[.int .i64 1, .string (T t.text), .string (T t.quoted), .slice none 0 0, .slice none 0 0] 36)) (alloc_below _ (.cells #[.string (T t.text), .string (T t.quoted)] 69)))
 have hn := heap_alloc_new (w.alloc (.cells #[.int .i64 1, .string (T t.text), .string (T t.quoted), .slice none 0 0, .slice none 0 0] 36)) (.cells #[.string (T t.text), .string (T t.quoted)] 69)
 rw [show (w.alloc (.cells #[.int .i64 1, .string (T t.text), .string (T t.quoted), .slice none 0 0, .slice none 0 0] 36)).heap.size = w.heap.size + 1 from by simp] at hn
 have HN := lh hn
 clear hq hn
 go_enter Tryz.func20, Tryz.ntmps20
 go_wp2_with fail
 go_ret2
 exact ⟨_, rfl, by rw [Lib.cell_of_heap HN.out]; rfl, by rw [Lib.cell_of_heap HN.out]; rfl, HB.out⟩
/-- Where the texts of a slice of one text lie. -/
theorem one_text {w : World} {B : Nat} {v : Value} {x : ByteArray} (h : w.ownsRow B 9 1 v 1 [.string x]) : ∃ b c, v = .slice (some ⟨b, 0, none⟩) 1 c ∧ w.cell? ⟨b, 0, none⟩ = some (.string x) := by
 obtain ⟨ao, cap, rfl, hc⟩ := own_form h
 obtain ⟨k, rfl, hcell⟩ := hc (by omega)
 exact ⟨k, cap, rfl, hcell 0 _ rfl⟩
theorem texts_one (b : Nat) (x y : ByteArray) (w : World) (h0 : w.cell? ⟨b, 0, none⟩ = some (.string x)) (h1 : w.cell? ⟨b, 1, none⟩ = some (.string y)) :
  Calls Tryz.prog 21 #[.slice (some ⟨b, 0, none⟩) 1 1] w fun e w' => ∃ a c, e = .returned (.slice (some ⟨a, 0, none⟩) 1 c) ∧ w'.cell? ⟨a, 0, none⟩ = some (.string x) ∧ Below w.heap.size w w' := by
 obtain ⟨i0, hi, hz0, hz1, hz2⟩ := info_parts (P := Tryz.prog) (e := 9) (z := .string ByteArray.empty) (size := 1) (bytes := 16) (by kernel_rfl)
 have HB1 := lh (alloc_below w (.cells #[.string x, .string y] 69))
 have HN1 := lh (heap_alloc_new w (.cells #[.string x, .string y] 69))
 go_enter Tryz.func21, Tryz.ntmps21
 go_wp2_with fail
 refine wp_loop_rounds 2 ?_
 rw [rounds_succ]
 go_upto_region 5 with fail
 generalize hw1 : w.alloc _ = w1 at *
 clear hw1
 have c0 : w1.cell? ⟨w.heap.size, 0, none⟩ = some (.string x) := by rw [Lib.cell_of_heap HN1.out]; rfl
 have c1 : w1.cell? ⟨w.heap.size, 1, none⟩ = some (.string y) := by rw [Lib.cell_of_heap HN1.out]; rfl
 have hsz1 := HB1.out.size
 go_wp2_with (at_builtin; refine wpList_append_any _ rfl _ _ 32 rfl w.heap.size 9 i0 (.string ByteArray.empty) 1 16 Tryz.underlying32 hi hz0 hz1 hz2 rfl (by decide) (.slice none 0 0) 0 [] rfl ?c0 (some ⟨w1.heap.size, 0, none⟩) 1 1 [.string x] rfl ?c1 rfl ?c2 ?c3 ?c4 ?c5 ?c6 ?_)
 case c0 => exact ⟨rfl, .inl ⟨rfl, rfl⟩⟩
 case c1 => intro h; cases h
 case c2 =>
  intro ad had
  cases had
  exact World.news_of_block (t := 9) (fr := (0, 0)) (heap_alloc_new w1 _)
 case c3 =>
  intro u hu
  simp only [List.mem_cons, List.not_mem_nil, or_false] at hu
  rcases hu with rfl <;> rfl
 case c4 => unfold maxLen; omega
 case c5 => omega
 case c6 => simp; omega
 intro v' w2 hown2 hgrow2 _
 obtain ⟨a, c, rfl, hca⟩ := one_text hown2
 have HC := lh hca
 have HB2 := lh (bnext HB1.out (bnext (alloc_below w1 (.cells #[.string x] 9)) (below_of_none hgrow2)))
 clear hca hown2 hgrow2
 go_wp2_with fail
 rw [rounds_succ]
 go_wp2_with fail
 go_ret
 exact ⟨a, c, rfl, HC.out, HB2.out⟩
theorem expWord_any (t : Tok) (w : World) (hq : t.quoted.length = t.text.length) :
  Calls Tryz.prog 8 #[.slice none 0 0, .int .i64 0, .agg #[.int .i64 1, .string (T t.text), .string (T t.quoted), .slice none 0 0, .slice none 0 0]] w fun e w' => ∃ a c b d, e = .returned (.tuple #[.slice (some ⟨a, 0, none⟩) 1 c, .slice (some ⟨b, 0, none⟩) 1 d, .int .i64 0]) ∧ w'.cell? ⟨a, 0, none⟩ = some (.string (T t.text)) ∧ w'.cell? ⟨b, 0, none⟩ = some (.string (T t.quoted)) ∧ Below w.heap.size w w' := by
 obtain ⟨i0, hi, hz0, hz1, hz2⟩ := info_parts (P := Tryz.prog) (e := 9) (z := .string ByteArray.empty) (size := 1) (bytes := 16) (by kernel_rfl)
 have HB1 := lh (alloc_below w (.cells #[.int .i64 1, .string (T t.text), .string (T t.quoted), .slice none 0 0, .slice none 0 0] 36))
 have HW := lh (fun (W : World) => eword_any t W hq)
 clear hq
 go_enter Tryz.func8, Tryz.ntmps8
 go_wp2_with fail
 generalize hw1 : w.alloc _ = w1 at *
 clear hw1
 (with_reducible refine (HW.out _).mono ?_); rintro e w2 ⟨vb, rfl, h0, h1, b2⟩
 have HB2 := lh (bnext HB1.out b2)
 clear b2 HB1
 go_wp2_with fail
 refine wp_loop_rounds 2 ?_
 rw [rounds_succ]
 go_upto_region 8 with fail
 have HB3 := lh (alloc_below w2 (.cells #[.string (T t.text), .string (T t.quoted)] 69))
 have HN3 := lh (heap_alloc_new w2 (.cells #[.string (T t.text), .string (T t.quoted)] 69))
 have HV := lh (And.intro h0 h1)
 clear h0 h1
 generalize hw3 : w2.alloc _ = w3 at *
 clear hw3
 generalize htb : w2.heap.size = tb at *
 have c0 : w3.cell? ⟨tb, 0, none⟩ = some (.string (T t.text)) := by rw [Lib.cell_of_heap HN3.out]; rfl
 have c1 : w3.cell? ⟨tb, 1, none⟩ = some (.string (T t.quoted)) := by rw [Lib.cell_of_heap HN3.out]; rfl
 have hsz3 : w.heap.size ≤ w3.heap.size := by have h1 := HB3.out.size; have h2 := HB2.out.size; omega
 go_wp2_with (at_builtin; refine wpList_append_any _ rfl _ _ 32 rfl w.heap.size 9 i0 (.string ByteArray.empty) 1 16 Tryz.underlying32 hi hz0 hz1 hz2 rfl (by decide) (.slice none 0 0) 0 [] rfl ?c0 (some ⟨w3.heap.size, 0, none⟩) 1 1 [.string (T t.quoted)] rfl ?c1 rfl ?c2 ?c3 ?c4 ?c5 ?c6 ?_)
 case c0 => exact ⟨rfl, .inl ⟨rfl, rfl⟩⟩
 case c1 => intro h; cases h
 case c2 =>
  intro ad had
  cases had
  exact World.news_of_block (t := 9) (fr := (0, 0)) (heap_alloc_new w3 _)
 case c3 =>
  intro u hu
  simp only [List.mem_cons, List.not_mem_nil, or_false] at hu
  rcases hu with rfl <;> rfl
 case c4 => unfold maxLen; omega
 case c5 => omega
 case c6 => simp; omega
 intro v' w4 hown4 hgrow4 _
 obtain ⟨mb, md, rfl, hcm⟩ := one_text hown4
 have HM := lh hcm
 have hb4 := bnext (show Below w2.heap.size w2 w3 by rw [htb]; exact HB3.out) (bnext (alloc_below w3 (.cells #[.string (T t.quoted)] 9)) (below_of_none hgrow4))
 have HB4 := lh (bnext HB2.out hb4)
 have hvl := block_lt_of_cell HV.out.1
 have HTX := lh (texts_one vb (T t.text) (T t.quoted) w4 (cell_below hb4 hvl HV.out.1) (cell_below hb4 hvl HV.out.2))
 have hml := block_lt_of_cell hcm
 clear hcm hown4 hgrow4 hb4 c0 c1 HB2
 go_wp2_with fail
 rw [rounds_succ]
 go_wp2_with fail
 (with_reducible refine HTX.out.mono ?_); rintro e w5 ⟨a, c, rfl, hca, b5⟩
 have HC := lh hca
 have HM5 := lh (cell_below b5 hml HM.out)
 have HB5 := lh (bnext HB4.out b5)
 clear hca b5
 go_wp2_with fail
 go_ret3
 exact ⟨a, c, mb, md, rfl, HC.out, HM5.out, HB5.out⟩
theorem replace_calls (s : List UInt8) (m : Int) (W : World) (hs : s.length ≤ 3000) (hm : W.cell? ⟨0, 0, none⟩ = some (.int .i64 m)) :
  Calls Tryz.prog 19 #[.string (T s), .string (T [39]), .string (T [39, 39])] W fun e w' => e = .returned (.string (T (Lx.esc s))) ∧ Below W.heap.size W w' := by
 have hsz := T_size s
 have h2 : (T [39, 39]).size = 2 := rfl
 have h1 : (T [39]).size = 1 := rfl
 have hc := Lib.countB_le (T [39]) (by rw [h1]; exact Nat.le_refl _) (T s).size (T s) (Nat.le_refl _)
 have := strings_ReplaceAll (T s) (T [39]) (T [39, 39]) m W (by omega) hm (by rw [h1]; exact Nat.le_refl _) (by rw [h2]; omega)
 rw [T_list, T_list, T_list, Lx.replace_quote] at this
 exact this
theorem quote_any (s : List UInt8) (m : Int) (w : World) (hs : s.length ≤ 3000) (hm : w.cell? ⟨0, 0, none⟩ = some (.int .i64 m)) (h0 : 0 < w.heap.size) :
  Calls Tryz.prog 7 #[.string (T s)] w fun e w' => e = .returned (.string (T (Lx.quote s))) ∧ Below w.heap.size w w' := by
 have HP := lh (plain_any s w (by omega))
 have HR := lh (fun (W : World) hm => replace_calls s m W hs hm)
 have HF : RowKit.Hid (Lx.quote s = if Lx.plain s then s else 39 :: (Lx.esc s ++ [39])) := lh rfl
 have HM := lh hm
 have hel := Lx.esc_le s
 have hn1 : ¬ 9223372036854775807 < 1 + (Lx.esc s).length := by omega
 have hn2 : ¬ 9223372036854775807 < 1 + (Lx.esc s).length + 1 := by omega
 clear hel
 clear hm hs
 generalize Lx.plain s = p at *
 cases p with
 | true =>
  go_enter Tryz.func7, Tryz.ntmps7
  go_wp2_with fail
  (with_reducible refine HP.out.mono ?_); rintro e w1 ⟨rfl, b1⟩
  have HB := lh b1
  clear b1
  go_wp2_with fail
  go_ret
  exact ⟨by rw [HF.out]; rfl, HB.out⟩
 | false =>
  go_enter Tryz.func7, Tryz.ntmps7
  go_wp2_with fail
  (with_reducible refine HP.out.mono ?_); rintro e w1 ⟨rfl, b1⟩
  have HB := lh b1
  have HM1 := lh ((b1.cell (p := ⟨0, 0, none⟩) h0).trans HM.out)
  clear b1
  go_wp2_with fail
  (with_reducible refine (HR.out _ HM1.out).mono ?_); rintro e w2 ⟨rfl, b2⟩
  have HB2 := lh (bnext HB.out b2)
  clear b2
  go_wp2_with fail
  go_ret
  refine ⟨?_, HB2.out⟩
  have e1 : T [39] ++ T (Lx.esc s) ++ T [39] = T (39 :: (Lx.esc s ++ [39])) := by rw [T_append, T_append]; rfl
  rw [HF.out]
  exact congrArg (fun x => Ending.returned (Value.string x)) e1
end Go.Proofs.YtfibaopngpfmjaaGreatDoor
