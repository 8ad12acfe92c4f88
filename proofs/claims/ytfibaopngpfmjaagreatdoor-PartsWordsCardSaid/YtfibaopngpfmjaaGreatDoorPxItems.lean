/- What parse.items returns at words: one simple command. Conditions: at most 900 tokens, all words, the first one echo; bytealg.MaxLen holds a number. -/
import Derived.Test.YtfibaopngpfmjaaGreatDoorPxDocs
import Derived.Defers
import Derived.Recover
set_option linter.unusedVariables false
set_option linter.unusedSimpArgs false
namespace Go.Proofs.YtfibaopngpfmjaaGreatDoor
open Go.RowKit Go.Proofs
/-- The deferred closure in a frame that returns. -/
theorem items_idle (p q r : Addr) (w : World) :
    CallsD Tryz.prog 43 #[.pointer (some p), .pointer (some q), .pointer (some r)] .returning w fun e u' w' => e = .returned (.tuple #[]) ∧ u' = .returning ∧ w' = w := by
  refine callsD_of_wpS Tryz.func43 rfl fun c₀ cs hu => ?_
  apply wpS_seq
  apply wpS_region
  simp [wpOpsS, go_sem, recoverD, hu, Tryz.ntmps43, Exit.thenS]
  apply wpS_seq
  apply wpS_region
  simp [wpOpsS, go_sem, Exit.thenS]
  refine wpS_cond (t := false) (by simp [Act.eval, Array.replicate]) ?_
  simp only [Bool.false_eq_true, if_false]
  refine wpS_of_wp (wp_skip ?_)
  cases c₀
  simp_all [bodyPostS, results, Tryz.results43]
/-- What is returned: the command, no place, no error. -/
def ItmSays (w : World) (l : List Tok) (e : Ending) (w' : World) : Prop :=
  ∃ (p : Int) (ao : Option Addr) (cap : Nat) (co : Option Addr) (cc : Nat), e = .returned (.tuple #[.slice co 1 cc, .int .i64 0, .int .i64 0]) ∧ w'.ownsRow w.heap.size 31 6 (.slice co 1 cc) 1 [.int .i64 1, .int .i64 p, .string (T []), .slice ao l.length cap, .slice none 0 0, .slice none 0 0] ∧ w'.ownsRow w.heap.size 36 5 (.slice ao l.length cap) l.length (wds l) ∧ Below w.heap.size w w'
set_option maxRecDepth 100000 in
set_option maxHeartbeats 8000000 in
theorem items_any (B q : Nat) (x : ByteArray) (tv : Value) (m : Int) (l : List Tok) (w : World) (hown : w.ownsRow B 132 4 tv l.length (toks l)) (hl : l.length ≤ 900) (hl0 : 0 < l.length) (hw : Wds l) (he : tkAt l 0 = echoTok q) (hm : w.cell? ⟨0, 0, none⟩ = some (.int .i64 m)) :
    Calls Tryz.prog 16 #[.string x, tv] w fun e w' => ItmSays w l e w' := by
  have hmf : ∀ (fn : Fn) (first cap : Array Value) (w : World), (Instr.makeFunc fn first cap).run Tryz.prog w = .ok (.func fn first cap) w := fun _ _ _ _ => rfl
  have hm0 : 0 < w.heap.size := block_lt_of_cell hm
  obtain ⟨ao, cap, rfl, _⟩ := own_form hown
  have HO := Lib.hid hown
  have HD := Lib.hid (fun (W : World) h => documents_any B x (.slice ao l.length cap) l W h hl hl0 hw)
  have HLI := Lib.hid (fun (g : Nat) (W : World) (h : PrS W g l 0) hm => list_any g q m l W h hl hl0 hw he hm)
  have HM := Lib.hid hm
  clear hown hm he hw
  go_enter_defers Tryz.func16, Tryz.ntmps16
  go_wp2_with fail
  have HB1 := Lib.hid (bnext (bnext (alloc_below w (.cells #[.slice none 0 0] 23)) (alloc_below _ (.cells #[.int .i64 0] 3))) (alloc_below _ (.cells #[.int .i64 0] 24)))
  have HR1 : RowKit.Hid ((((w.alloc (.cells #[.slice none 0 0] 23)).alloc (.cells #[.int .i64 0] 3)).alloc (.cells #[.int .i64 0] 24)).heap[w.heap.size]? = some (.cells #[.slice none 0 0] 23 (0, 0))) := Lib.hid ((Lib.alloc_old _ _ _ (by simp; omega)).trans ((Lib.alloc_old _ _ _ (by simp)).trans (heap_alloc_new w _)))
  have HR2 : RowKit.Hid ((((w.alloc (.cells #[.slice none 0 0] 23)).alloc (.cells #[.int .i64 0] 3)).alloc (.cells #[.int .i64 0] 24)).heap[w.heap.size + 1]? = some (.cells #[.int .i64 0] 3 (0, 0))) := Lib.hid ((Lib.alloc_old _ _ _ (by simp)).trans (by
    have := heap_alloc_new (w.alloc (.cells #[.slice none 0 0] 23)) (.cells #[.int .i64 0] 3)
    simpa using this))
  have HR3 : RowKit.Hid ((((w.alloc (.cells #[.slice none 0 0] 23)).alloc (.cells #[.int .i64 0] 3)).alloc (.cells #[.int .i64 0] 24)).heap[w.heap.size + 1 + 1]? = some (.cells #[.int .i64 0] 24 (0, 0))) := Lib.hid (by
    have := heap_alloc_new ((w.alloc (.cells #[.slice none 0 0] 23)).alloc (.cells #[.int .i64 0] 3)) (.cells #[.int .i64 0] 24)
    simpa using this)
  generalize hw1 : World.alloc _ _ = w1 at *
  clear hw1
  have ho1 := own_next HO.out HB1.out
  (with_reducible refine (HD.out _ ho1).mono ?_); rintro e w2 ⟨dao, dn, dc, rfl, b2⟩
  have HO2 := Lib.hid (own_next ho1 b2)
  have HR12 := Lib.hid ((b2.block _ (row_ltP HR1.out)).trans HR1.out)
  have HR22 := Lib.hid ((b2.block _ (row_ltP HR2.out)).trans HR2.out)
  have HR32 := Lib.hid ((b2.block _ (row_ltP HR3.out)).trans HR3.out)
  have HB2 := Lib.hid (bnext HB1.out b2)
  clear b2 ho1 HO HR1 HR2 HR3 HB1 HD
  go_wp2_with fail
  have HP3 := Lib.hid (show PrS (w2.alloc (.cells #[.string x, .slice ao l.length cap, .slice dao dn dc, .int .i64 0] 104)) w2.heap.size l 0 from
    ⟨x, .slice ao l.length cap, .slice dao dn dc, B, heap_alloc_new w2 _, HO2.out.alloc _, fun e => by have := (HO2.out.lt _ e).2; omega⟩)
  have hb3 := alloc_below w2 (.cells #[.string x, .slice ao l.length cap, .slice dao dn dc, .int .i64 0] 104)
  have HR13 := Lib.hid ((hb3.block _ (row_ltP HR12.out)).trans HR12.out)
  have HR23 := Lib.hid ((hb3.block _ (row_ltP HR22.out)).trans HR22.out)
  have HR33 := Lib.hid ((hb3.block _ (row_ltP HR32.out)).trans HR32.out)
  have HB3 := Lib.hid (bnext HB2.out hb3)
  have hg3 : w.heap.size + 1 + 1 < w2.heap.size := row_ltP HR32.out
  have hm3 := (HB3.out.cell (p := ⟨0, 0, none⟩) hm0).trans HM.out
  clear hb3 HO2 HR12 HR22 HR32 HB2
  generalize hw3 : w2.alloc _ = w3 at *
  generalize w2.heap.size = g at *
  clear hw3
  have hp3 := HP3.out
  (with_reducible refine (HLI.out _ _ hp3 hm3).mono ?_); rintro e w4 ⟨p, wo, wc, cv, rfl, hc4, ho4, hs4, hg4⟩
  obtain ⟨co, cc, rfl, _⟩ := own_form hc4
  have HC4 := Lib.hid (owns_lower hc4 HB3.out.size)
  have HO4 := Lib.hid (owns_lower ho4 HB3.out.size)
  have HS4 := Lib.hid hs4
  have HR14 := Lib.hid ((hg4.block _ (row_ltP HR13.out) (fun e => by cases e; omega)).trans HR13.out)
  have HR24 := Lib.hid ((hg4.block _ (row_ltP HR23.out) (fun e => by cases e; omega)).trans HR23.out)
  have HR34 := Lib.hid ((hg4.block _ (row_ltP HR33.out) (fun e => by cases e; omega)).trans HR33.out)
  have HB4 := Lib.hid (show Below w.heap.size w w4 from HB3.out.trans ((below_of_grown hg4 hp3.lt).mono (by omega)))
  clear hc4 ho4 hs4 hg4 HP3 HR13 HR23 HR33 HB3 hm3 hp3 HLI
  obtain ⟨_, _, _, _, hr4, _, _⟩ := HS4.out
  obtain ⟨⟨p0, p1, p2, p3⟩, _⟩ := hr4.reads
  have a0 : w4.cell? ⟨w.heap.size, 0, none⟩ = some (.slice none 0 0) := by rw [Lib.cell_of_heap HR14.out]; rfl
  have a1 : w4.cell? ⟨w.heap.size + 1, 0, none⟩ = some (.int .i64 0) := by rw [Lib.cell_of_heap HR24.out]; rfl
  have a2 : w4.cell? ⟨w.heap.size + 1 + 1, 0, none⟩ = some (.int .i64 0) := by rw [Lib.cell_of_heap HR34.out]; rfl
  have y0 : w4.frozen? ⟨w.heap.size, 0, none⟩ = false := Lib.frozen_of_heap HR14.out _
  have y1 : w4.frozen? ⟨w.heap.size + 1, 0, none⟩ = false := Lib.frozen_of_heap HR24.out _
  have y2 : w4.frozen? ⟨w.heap.size + 1 + 1, 0, none⟩ = false := Lib.frozen_of_heap HR34.out _
  have hn1 : g ≠ w.heap.size := by omega
  have hn2 : g ≠ w.heap.size + 1 := by omega
  have hn3 : g ≠ w.heap.size + 1 + 1 := by omega
  clear hr4
  go_wp2_with fail
  have hf1 := heap_setCell_same w4 w.heap.size 0 _ _ (.slice co 1 cc) HR14.out
  have hf2 := heap_setCell_same _ w.heap.size 0 _ _ (.slice co 1 cc) hf1
  have HG5 := Lib.hid (grown_setG (grown_setG (below_grownBy (Below.refl w4.heap.size w4) (some w.heap.size)) 0 (.slice co 1 cc)) 0 (.slice co 1 cc))
  generalize hw5 : (w4.setCell ⟨w.heap.size, 0, none⟩ (.slice co 1 cc)).setCell ⟨w.heap.size, 0, none⟩ (.slice co 1 cc) = w5 at *
  have hr2 := (HG5.out.block (w.heap.size + 1) (row_ltP HR24.out) (fun e => by have := Option.some.inj e; omega)).trans HR24.out
  have hr3 := (HG5.out.block (w.heap.size + 1 + 1) (row_ltP HR34.out) (fun e => by have := Option.some.inj e; omega)).trans HR34.out
  refine leaves_cons (f := 43) (args := #[.pointer (some ⟨w.heap.size, 0, none⟩), .pointer (some ⟨w.heap.size + 1, 0, none⟩), .pointer (some ⟨w.heap.size + 1 + 1, 0, none⟩)]) (by simp) (by simp [go_sem]) ?_
  refine (items_idle _ _ _ _).mono ?_
  rintro e u' w'' ⟨rfl, rfl, rfl⟩
  have hq1 := (Below.heap_setCell (w5.setCell ⟨w.heap.size + 1, 0, none⟩ (.int .i64 0)) ⟨w.heap.size + 1 + 1, 0, none⟩ (.int .i64 0) w.heap.size (show w.heap.size ≠ w.heap.size + 1 + 1 by omega)).trans ((Below.heap_setCell w5 ⟨w.heap.size + 1, 0, none⟩ (.int .i64 0) w.heap.size (show w.heap.size ≠ w.heap.size + 1 by omega)).trans hf2)
  have hq2 := (Below.heap_setCell (w5.setCell ⟨w.heap.size + 1, 0, none⟩ (.int .i64 0)) ⟨w.heap.size + 1 + 1, 0, none⟩ (.int .i64 0) (w.heap.size + 1) (show w.heap.size + 1 ≠ w.heap.size + 1 + 1 by omega)).trans (heap_setCell_same w5 (w.heap.size + 1) 0 _ _ (.int .i64 0) hr2)
  have hq3 := heap_setCell_same (w5.setCell ⟨w.heap.size + 1, 0, none⟩ (.int .i64 0)) (w.heap.size + 1 + 1) 0 _ _ (.int .i64 0) ((Below.heap_setCell w5 ⟨w.heap.size + 1, 0, none⟩ (.int .i64 0) (w.heap.size + 1 + 1) (show w.heap.size + 1 + 1 ≠ w.heap.size + 1 by omega)).trans hr3)
  have q1 : ((w5.setCell ⟨w.heap.size + 1, 0, none⟩ (.int .i64 0)).setCell ⟨w.heap.size + 1 + 1, 0, none⟩ (.int .i64 0)).cell? ⟨w.heap.size, 0, none⟩ = some (.slice co 1 cc) := by rw [Lib.cell_of_heap hq1]; rfl
  have q2 : ((w5.setCell ⟨w.heap.size + 1, 0, none⟩ (.int .i64 0)).setCell ⟨w.heap.size + 1 + 1, 0, none⟩ (.int .i64 0)).cell? ⟨w.heap.size + 1, 0, none⟩ = some (.int .i64 0) := by rw [Lib.cell_of_heap hq2]; rfl
  have q3 : ((w5.setCell ⟨w.heap.size + 1, 0, none⟩ (.int .i64 0)).setCell ⟨w.heap.size + 1 + 1, 0, none⟩ (.int .i64 0)).cell? ⟨w.heap.size + 1 + 1, 0, none⟩ = some (.int .i64 0) := by rw [Lib.cell_of_heap hq3]; rfl
  have hg6 := grown_setG (below_grownBy (Below.refl w5.heap.size w5) (some (w.heap.size + 1))) 0 (.int .i64 0)
  have hg7 := grown_setG (below_grownBy (Below.refl _ (w5.setCell ⟨w.heap.size + 1, 0, none⟩ (.int .i64 0))) (some (w.heap.size + 1 + 1))) 0 (.int .i64 0)
  have hr3' := (hg6.block (w.heap.size + 1 + 1) (row_ltP hr3) (fun e => by have := Option.some.inj e; omega)).trans hr3
  have hC := ((HC4.out.kept HG5.out (Or.inr (own_neP HC4.out HR14.out (by decide)))).kept hg6 (Or.inr (own_neP (HC4.out.kept HG5.out (Or.inr (own_neP HC4.out HR14.out (by decide)))) hr2 (by decide))))
  have hC7 := hC.kept hg7 (Or.inr (own_neP hC hr3' (by decide)))
  have hO := ((HO4.out.kept HG5.out (Or.inr (own_neP HO4.out HR14.out (by decide)))).kept hg6 (Or.inr (own_neP (HO4.out.kept HG5.out (Or.inr (own_neP HO4.out HR14.out (by decide)))) hr2 (by decide))))
  have hO7 := hO.kept hg7 (Or.inr (own_neP hO hr3' (by decide)))
  have hB : Below w.heap.size w w5 := by rw [← hw5]; exact (HB4.out.setCell (p := ⟨w.heap.size, 0, none⟩) (Nat.le_refl _) _).setCell (p := ⟨w.heap.size, 0, none⟩) (Nat.le_refl _) _
  have hB7 : Below w.heap.size w ((w5.setCell ⟨w.heap.size + 1, 0, none⟩ (.int .i64 0)).setCell ⟨w.heap.size + 1 + 1, 0, none⟩ (.int .i64 0)) := (hB.setCell (p := ⟨w.heap.size + 1, 0, none⟩) (by show _ ≤ w.heap.size + 1; omega) _).setCell (p := ⟨w.heap.size + 1 + 1, 0, none⟩) (by show _ ≤ w.heap.size + 1 + 1; omega) _
  have hfin : ItmSays w l (.returned (.tuple #[.slice co 1 cc, .int .i64 0, .int .i64 0])) ((w5.setCell ⟨w.heap.size + 1, 0, none⟩ (.int .i64 0)).setCell ⟨w.heap.size + 1 + 1, 0, none⟩ (.int .i64 0)) := ⟨p, wo, wc, co, cc, rfl, hC7, hO7, hB7⟩
  clear hC hO hB hq1 hq2 hq3
  simp [Leaves, settle, results, Tryz.results16, go_sem, q1, q2, q3]
  exact hfin
end Go.Proofs.YtfibaopngpfmjaaGreatDoor
