/- The parser's tokens and pieces. Conditions: those that each theorem names. -/
import Derived.Test.YtfibaopngpfmjaaGreatDoorRzA5
set_option linter.unusedVariables false
set_option linter.unusedSimpArgs false
set_option maxRecDepth 100000
set_option maxHeartbeats 4000000
namespace Go.Proofs.YtfibaopngpfmjaaGreatDoor
open Go.RowKit Go.Proofs
/-- The parser's block. -/
def PrRow (W : World) (g : Nat) (x : ByteArray) (tv dv : Value) (n : Nat) : Prop :=
 W.heap[g]? = some (.cells #[.string x, tv, dv, .int .i64 (n : Int)] 104 (0, 0))
theorem PrRow.reads {W : World} {g : Nat} {x : ByteArray} {tv dv : Value} {n : Nat} (h : PrRow W g x tv dv n) :
  (W.cell? ⟨g, 0, none⟩ = some (.string x) ∧ W.cell? ⟨g, 1, none⟩ = some tv ∧ W.cell? ⟨g, 2, none⟩ = some dv ∧ W.cell? ⟨g, 3, none⟩ = some (.int .i64 (n : Int))) ∧ W.frozen? ⟨g, 3, none⟩ = false := by
 unfold PrRow at h
 refine ⟨⟨?_, ?_, ?_, ?_⟩, ?_⟩
 all_goals first
  | (rw [Lib.cell_of_heap h]; rfl)
  | (exact Lib.frozen_of_heap h _)
/-- The parser at its token n of the list l. -/
def PrS (W : World) (g : Nat) (l : List Tok) (n : Nat) : Prop := ∃ x tv dv B, PrRow W g x tv dv n ∧ W.ownsRow B 132 4 tv l.length (toks l) ∧ tv.ownBlock ≠ some g
theorem PrS.next {W W' : World} {g n : Nat} {l : List Tok} (h : PrS W g l n) (hb : Below W.heap.size W W') : PrS W' g l n := by
 obtain ⟨x, tv, dv, B, h1, h2, h3⟩ := h
 exact ⟨x, tv, dv, B, (hb.block _ (row_ltP h1)).trans h1, own_next h2 hb, h3⟩
theorem PrS.lt {W : World} {g n : Nat} {l : List Tok} (h : PrS W g l n) : g < W.heap.size := by
 obtain ⟨x, tv, dv, B, h1, h2, h3⟩ := h
 exact row_ltP h1
theorem PrS.step {W : World} {g n : Nat} {l : List Tok} (h : PrS W g l n) : PrS (W.setCell ⟨g, 3, none⟩ (.int .i64 ((n : Int) + 1))) g l (n + 1) := by
 obtain ⟨x, tv, dv, B, h1, h2, h3⟩ := h
 refine ⟨x, tv, dv, B, ?_, h2.kept (grown_setG (below_grownBy (Below.refl W.heap.size W) (some g)) 3 _) (Or.inr h3), h3⟩
 have := heap_setCell_same W g 3 _ _ (.int .i64 ((n : Int) + 1)) h1
 unfold PrRow
 rw [this]
 rfl
def tkval (t : Tok) : Value := .agg #[.int .i64 t.kind, .int .i64 (t.pos : Int), .string (T t.text), .string (T t.quoted)]
def tzero : Tok := ⟨0, 0, [], []⟩
def tkAt (l : List Tok) (i : Nat) : Tok := l.getD i tzero
theorem four_stored {W : World} {g : Nat} {a b c d v0 v1 v2 v3 : Value} {t : TypeId} (h : W.heap[g]? = some (.cells #[a, b, c, d] t (0, 0))) :
  ((((W.setCell ⟨g, 0, none⟩ v0).setCell ⟨g, 1, none⟩ v1).setCell ⟨g, 2, none⟩ v2).setCell ⟨g, 3, none⟩ v3).heap[g]? = some (.cells #[v0, v1, v2, v3] t (0, 0)) := by
 have h0 := heap_setCell_same W g 0 _ _ v0 h
 have h1 := heap_setCell_same _ g 1 _ _ v1 h0
 have h2 := heap_setCell_same _ g 2 _ _ v2 h1
 exact heap_setCell_same _ g 3 _ _ v3 h2
theorem four_cells {W : World} {g : Nat} {a b c d : Value} {t : TypeId} (h : W.heap[g]? = some (.cells #[a, b, c, d] t (0, 0))) :
  W.cell? ⟨g, 0, none⟩ = some a ∧ W.cell? ⟨g, 1, none⟩ = some b ∧ W.cell? ⟨g, 2, none⟩ = some c ∧ W.cell? ⟨g, 3, none⟩ = some d := by
 refine ⟨?_, ?_, ?_, ?_⟩ <;> (rw [Lib.cell_of_heap h]; rfl)
theorem below_four {B g : Nat} {w W : World} (h : Below B w W) (hg : B ≤ g) (v0 v1 v2 v3 : Value) : Below B w ((((W.setCell ⟨g, 0, none⟩ v0).setCell ⟨g, 1, none⟩ v1).setCell ⟨g, 2, none⟩ v2).setCell ⟨g, 3, none⟩ v3) :=
 (((h.setCell (p := ⟨g, 0, none⟩) hg _).setCell (p := ⟨g, 1, none⟩) hg _).setCell (p := ⟨g, 2, none⟩) hg _).setCell (p := ⟨g, 3, none⟩) hg _
theorem ptok_any (g n j : Nat) (l : List Tok) (w : World) (h : PrS w g l n) (hl : l.length ≤ 1000) (hn : n ≤ 1000) (hj : j ≤ 10) :
  Calls Tryz.prog 97 #[.pointer (some ⟨g, 0, none⟩), .int .i64 (j : Int)] w fun e w' => e = .returned (tkval (tkAt l (n + j))) ∧ Below w.heap.size w w' := by
 have hgl := h.lt
 obtain ⟨x, tv, dv, B, hr, hown, hne⟩ := h
 obtain ⟨ao, cap, rfl, hc⟩ := own_form hown
 obtain ⟨⟨r0, r1, r2, r3⟩, f3⟩ := hr.reads
 have HBd := lh (fun (k : Nat) => show Below w.heap.size w (w.drewN k) from below_drewN w k)
 have hw1 : IntKind.i64.wrap ((n : Int) + (j : Int)) = (n : Int) + (j : Int) := IntWalk.i64_in _ (by omega)
 have hgne : g ≠ w.heap.size := by omega
 by_cases hlt : n + j < l.length
 ·have hlt2 : (n : Int) + (j : Int) < (l.length : Int) := by omega
  obtain ⟨k, rfl, hcell⟩ := hc (by omega)
  obtain ⟨t, ht⟩ : ∃ t, l[n + j]? = some t := ⟨_, List.getElem?_eq_getElem hlt⟩
  have hz : tkAt l (n + j) = t := by
   unfold tkAt
   rw [List.getD_eq_getElem?_getD, ht]
   rfl
  have c0 : w.cell? ⟨k, (n + j) * 4, none⟩ = some (.int .i64 t.kind) := hcell _ _ (by have := toks_get l (n + j) t ht 0 (by omega); simpa [tokv] using this)
  have c1 : w.cell? ⟨k, (n + j) * 4 + 1, none⟩ = some (.int .i64 (t.pos : Int)) := hcell _ _ (by have := toks_get l (n + j) t ht 1 (by omega); simpa [tokv] using this)
  have c2 : w.cell? ⟨k, (n + j) * 4 + 2, none⟩ = some (.string (T t.text)) := hcell _ _ (by have := toks_get l (n + j) t ht 2 (by omega); simpa [tokv] using this)
  have c3 : w.cell? ⟨k, (n + j) * 4 + 3, none⟩ = some (.string (T t.quoted)) := hcell _ _ (by have := toks_get l (n + j) t ht 3 (by omega); simpa [tokv] using this)
  have hkl : k < w.heap.size := block_lt_of_cell c0
  have hkne : k ≠ w.heap.size := by omega
  have HZ := lh hz
  have hi0 : (0 : Int) ≤ (n : Int) + (j : Int) := by omega
  have hi1 : ((n : Int) + (j : Int)).toNat = n + j := by omega
  clear hown hr hc hcell hlt hz ht
  go_enter Tryz.func97, Tryz.ntmps97
  go_upto_region 1 with fail
  go_quiet (fail)
  go_wp2_with fail
  go_region
  all_goals go_wp2_with fail
  all_goals
   have hq0 : ((w.alloc (.cells #[.int .i64 0, .int .i64 0, .string ByteArray.empty, .string ByteArray.empty] 132)).drewN (nq + 1)).heap[w.heap.size]? = some (.cells #[.int .i64 0, .int .i64 0, .string ByteArray.empty, .string ByteArray.empty] 132 (0, 0)) := heap_alloc_new w _
   have hq := four_stored (v0 := .int .i64 t.kind) (v1 := .int .i64 (t.pos : Int)) (v2 := .string (T t.text)) (v3 := .string (T t.quoted)) hq0
   obtain ⟨q0, q1, q2, q3⟩ := four_cells hq
   exact bodyPost_ret (v := tkval t) (by simp [results, Tryz.results97, go_sem, q0, q1, q2, q3, tkval]) rfl ⟨by rw [HZ.out], below_four (((Below.refl w.heap.size w).alloc (Nat.le_refl _) _).trans (below_drewN _ (nq + 1) |>.mono (by simp))) (Nat.le_refl _) _ _ _ _⟩
 ·have hlt2 : (l.length : Int) ≤ (n : Int) + (j : Int) := by omega
  have hz : tkAt l (n + j) = tzero := by
   unfold tkAt
   rw [List.getD_eq_getElem?_getD, List.getElem?_eq_none (by omega)]
   rfl
  have HZ := lh hz
  have HR0 := lh hr
  clear hown hr hc hlt hz
  go_enter Tryz.func97, Tryz.ntmps97
  go_upto_region 1 with fail
  have q1 : (w.alloc (.cells #[.int .i64 0, .int .i64 0, .string ByteArray.empty, .string ByteArray.empty] 132)).cell? ⟨g, 1, none⟩ = some (.slice ao l.length cap) := by
   rw [Lib.cell_of_heap ((Lib.alloc_old w _ g hgl).trans HR0.out)]; rfl
  go_quiet (fail)
  go_wp2_with fail
  have hq0 : ((w.alloc (.cells #[.int .i64 0, .int .i64 0, .string ByteArray.empty, .string ByteArray.empty] 132)).drewN nq).heap[w.heap.size]? = some (.cells #[.int .i64 0, .int .i64 0, .string ByteArray.empty, .string ByteArray.empty] 132 (0, 0)) := heap_alloc_new w _
  have hq := four_stored (v0 := .int .i64 0) (v1 := .int .i64 0) (v2 := .string (T [])) (v3 := .string (T [])) hq0
  obtain ⟨q0, q1, q2, q3⟩ := four_cells hq
  exact bodyPost_ret (v := tkval tzero) (by simp [results, Tryz.results97, go_sem, q0, q1, q2, q3, tkval, tzero]) rfl ⟨by rw [HZ.out], below_four (((Below.refl w.heap.size w).alloc (Nat.le_refl _) _).trans (below_drewN _ nq |>.mono (by simp))) (Nat.le_refl _) _ _ _ _⟩
theorem ptok0 (g n : Nat) (l : List Tok) (w : World) (h : PrS w g l n) (hl : l.length ≤ 1000) (hn : n ≤ 1000) :
  Calls Tryz.prog 97 #[.pointer (some ⟨g, 0, none⟩), .int .i64 0] w fun e w' => e = .returned (tkval (tkAt l n)) ∧ Below w.heap.size w w' := ptok_any g n 0 l w h hl hn (by omega)
theorem ptok1 (g n : Nat) (l : List Tok) (w : World) (h : PrS w g l n) (hl : l.length ≤ 1000) (hn : n ≤ 1000) :
  Calls Tryz.prog 97 #[.pointer (some ⟨g, 0, none⟩), .int .i64 1] w fun e w' => e = .returned (tkval (tkAt l (n + 1))) ∧ Below w.heap.size w w' := ptok_any g n 1 l w h hl hn (by omega)
/-- All tokens are words. -/
def Wds (l : List Tok) : Prop := ∀ t ∈ l, t.kind = 1
theorem Wds.in {l : List Tok} (h : Wds l) {n : Nat} (hn : n < l.length) : (tkAt l n).kind = 1 := by
 unfold tkAt
 rw [List.getD_eq_getElem?_getD, List.getElem?_eq_getElem hn]
 exact h _ (List.getElem_mem hn)
theorem tk_out {l : List Tok} {n : Nat} (hn : l.length ≤ n) : tkAt l n = tzero := by
 unfold tkAt
 rw [List.getD_eq_getElem?_getD, List.getElem?_eq_none hn]
 rfl
theorem Wds.or {l : List Tok} (h : Wds l) (n : Nat) : (tkAt l n).kind = 1 ∨ (tkAt l n).kind = 0 := by
 rcases Nat.lt_or_ge n l.length with h1 | h1
 ·exact .inl (h.in h1)
 ·rw [tk_out h1]; exact .inr rfl
/-- Neither a symbol, a break nor a document. -/
def Tok.soft (t : Tok) : Prop := (t.kind == 2) = false ∧ (t.kind == 3) = false ∧ (t.kind == 4) = false
theorem Wds.soft {l : List Tok} (h : Wds l) (n : Nat) : (tkAt l n).soft := by
 rcases h.or n with e | e <;> (unfold Tok.soft; rw [e]; exact ⟨rfl, rfl, rfl⟩)
theorem is_not (t : Tok) (y : ByteArray) (w : World) (h : t.soft) :
  Calls Tryz.prog 156 #[tkval t, .string y] w fun e w' => e = .returned (.bool false) ∧ Below w.heap.size w w' := by
 obtain ⟨h2, h3, h4⟩ := h
 have HB := lh (Below.refl w.heap.size w)
 unfold tkval
 go_enter Tryz.func156, Tryz.ntmps156
 go_wp2_with fail
 go_ret
 exact ⟨rfl, HB.out.alloc (Nat.le_refl _) _⟩
theorem sees_not (g n : Nat) (l : List Tok) (y : ByteArray) (w : World) (h : PrS w g l n) (hl : l.length ≤ 1000) (hn : n ≤ 1000) (hw : Wds l) :
  Calls Tryz.prog 155 #[.pointer (some ⟨g, 0, none⟩), .string y] w fun e w' => e = .returned (.bool false) ∧ Below w.heap.size w w' := by
 have HT := lh (ptok0 g n l w h hl hn)
 have HI := lh (fun (W : World) => is_not (tkAt l n) y W (hw.soft n))
 clear h hl hn hw
 generalize tkval (tkAt l n) = tv at *
 go_enter Tryz.func155, Tryz.ntmps155
 go_wp2_with fail
 (with_reducible refine HT.out.mono ?_); rintro e w1 ⟨rfl, b1⟩
 have HB1 := lh b1
 clear b1
 go_wp2_with fail
 (with_reducible refine (HI.out _).mono ?_); rintro e w2 ⟨rfl, b2⟩
 have HB2 := lh (bnext HB1.out b2)
 clear b2
 go_wp2_with fail
 go_ret
 exact ⟨rfl, HB2.out⟩
theorem accept_not (g n : Nat) (l : List Tok) (y : ByteArray) (w : World) (h : PrS w g l n) (hl : l.length ≤ 1000) (hn : n ≤ 1000) (hw : Wds l) :
  Calls Tryz.prog 160 #[.pointer (some ⟨g, 0, none⟩), .string y] w fun e w' => e = .returned (.bool false) ∧ Below w.heap.size w w' := by
 have HT := lh (sees_not g n l y w h hl hn hw)
 clear h hl hn hw
 go_enter Tryz.func160, Tryz.ntmps160
 go_wp2_with fail
 (with_reducible refine HT.out.mono ?_); rintro e w1 ⟨rfl, b1⟩
 have HB1 := lh b1
 clear b1
 go_wp2_with fail
 go_ret
 exact ⟨rfl, HB1.out⟩
theorem begw_yes (t : Tok) (w : World) (h : t.kind = 1) :
  Calls Tryz.prog 157 #[tkval t] w fun e w' => e = .returned (.bool true) ∧ Below w.heap.size w w' := by
 have HB := lh (Below.refl w.heap.size w)
 unfold tkval
 rw [h]
 go_enter Tryz.func157, Tryz.ntmps157
 go_wp2_with fail
 go_ret
 exact ⟨rfl, HB.out.alloc (Nat.le_refl _) _⟩
theorem tzval : tkval tzero = .agg #[.int .i64 0, .int .i64 0, .string (T []), .string (T [])] := rfl
theorem tz_soft : tzero.soft := ⟨rfl, rfl, rfl⟩
theorem begw_no (w : World) :
  Calls Tryz.prog 157 #[tkval tzero] w fun e w' => e = .returned (.bool false) ∧ Below w.heap.size w w' := by
 have HB := lh (show Below w.heap.size w (w.alloc (.cells #[.int .i64 0, .int .i64 0, .string (T []), .string (T [])] 132)) from (Below.refl w.heap.size w).alloc (Nat.le_refl _) _)
 have HI := lh (fun (y : ByteArray) (W : World) => is_not tzero y W tz_soft)
 have HN := lh (heap_alloc_new w (.cells #[.int .i64 0, .int .i64 0, .string (T []), .string (T [])] 132))
 rw [tzval] at HI ⊢
 go_enter Tryz.func157, Tryz.ntmps157
 go_wp2_with fail
 generalize World.alloc _ _ = w1 at *
 (with_reducible refine (HI.out _ _).mono ?_); rintro e w2 ⟨rfl, b2⟩
 have HB2 := lh (bnext HB.out b2)
 have HN2 := lh ((b2.block _ (row_ltP HN.out)).trans HN.out)
 clear b2
 obtain ⟨q0, q1, q2, q3⟩ := four_cells HN2.out
 go_wp2_with fail
 (with_reducible refine (HI.out _ _).mono ?_); rintro e w3 ⟨rfl, b3⟩
 have HB3 := lh (bnext HB2.out b3)
 have HN3 := lh ((b3.block _ (row_ltP HN2.out)).trans HN2.out)
 clear b3 q0 q1 q2 q3
 obtain ⟨q0, q1, q2, q3⟩ := four_cells HN3.out
 go_wp2_with fail
 (with_reducible refine (HI.out _ _).mono ?_); rintro e w4 ⟨rfl, b4⟩
 have HB4 := lh (bnext HB3.out b4)
 have HN4 := lh ((b4.block _ (row_ltP HN3.out)).trans HN3.out)
 clear b4 q0 q1 q2 q3
 obtain ⟨q0, q1, q2, q3⟩ := four_cells HN4.out
 go_wp2_with fail
 (with_reducible refine (HI.out _ _).mono ?_); rintro e w5 ⟨rfl, b5⟩
 have HB5 := lh (bnext HB4.out b5)
 clear b5 q0 q1 q2 q3
 go_wp2_with fail
 go_ret
 exact ⟨rfl, HB5.out⟩
theorem begr_no (t : Tok) (w : World) (h : t.soft) :
  Calls Tryz.prog 158 #[tkval t] w fun e w' => e = .returned (.bool false) ∧ Below w.heap.size w w' := by
 obtain ⟨h2, h3, h4⟩ := h
 have HB := lh (Below.refl w.heap.size w)
 unfold tkval
 go_enter Tryz.func158, Tryz.ntmps158
 go_wp2_with fail
 go_ret
 exact ⟨rfl, HB.out.alloc (Nat.le_refl _) _⟩
theorem fld_tok (v0 v1 v2 v3 : Value) (w : World) : (Instr.field 132 (.agg #[v0, v1, v2, v3]) 0).run Tryz.prog w = .ok v0 w := by kernel_rfl
theorem fld_tok1 (v0 v1 v2 v3 : Value) (w : World) : (Instr.field 132 (.agg #[v0, v1, v2, v3]) 1).run Tryz.prog w = .ok v1 w := by kernel_rfl
theorem ends_not (g n : Nat) (l : List Tok) (w : World) (h : PrS w g l n) (hl : l.length ≤ 1000) (hn : n ≤ 1000) (hw : Wds l) :
  Calls Tryz.prog 93 #[.pointer (some ⟨g, 0, none⟩)] w fun e w' => e = .returned (.bool false) ∧ Below w.heap.size w w' := by
 have HT := lh (ptok0 g n l w h hl hn)
 have HI := lh (fun (W : World) (h : PrS W g l n) => sees_not g n l (T [59]) W h hl hn hw)
 have HS := lh h
 obtain ⟨x, tv, dv, B, hr, _, _⟩ := h
 obtain ⟨⟨r0, r1, r2, r3⟩, f3⟩ := hr.reads
 have h3 := (hw.soft n).2.1
 clear hl hn hw hr
 unfold tkval at HT
 generalize tkAt l n = t at *
 have hfd := fld_tok
 go_enter Tryz.func93, Tryz.ntmps93
 go_wp2_with fail
 refine wp_loop_rounds 1 ?_
 rw [rounds_succ]
 go_wp2_with fail
 (with_reducible refine HT.out.mono ?_); rintro e w1 ⟨rfl, b1⟩
 have HS1 := lh (HS.out.next b1)
 have HB1 := lh b1
 clear b1 r0 r1 r2 r3 f3
 go_wp2_with fail
 (with_reducible refine (HI.out _ HS1.out).mono ?_); rintro e w2 ⟨rfl, b2⟩
 have HS2 := lh (HS1.out.next b2)
 have HB2 := lh (bnext HB1.out b2)
 clear b2
 obtain ⟨x, tv, dv, B, hr, _, _⟩ := HS2.out
 obtain ⟨⟨r0, r1, r2, r3⟩, f3⟩ := hr.reads
 clear hr
 go_wp2_with fail
 go_ret
 exact ⟨rfl, HB2.out⟩
def echo : List UInt8 := [101, 99, 104, 111]
def echoTok (p : Nat) : Tok := ⟨1, p, echo, [48, 48, 48, 48]⟩
theorem echo_val (p : Nat) : tkval (echoTok p) = .agg #[.int .i64 1, .int .i64 (p : Int), .string (T [101, 99, 104, 111]), .string (T [48, 48, 48, 48])] := rfl
theorem plain_echo (p : Nat) (w : World) :
  Calls Tryz.prog 161 #[tkval (echoTok p)] w fun e w' => e = .returned (.bool true) ∧ Below w.heap.size w w' := by
 have HB := lh (Below.refl w.heap.size w)
 have HI := lh (show ∀ (W : World), Calls Tryz.prog 38 #[.string (T [48, 48, 48, 48]), .int .u8 49] W fun e w' => e = .returned (.int .i64 (-1)) ∧ w' = W from fun W => by
  have := strings_IndexByte (T [48, 48, 48, 48]) 49 W
  rw [T_list, show Lib.indexByte [48, 48, 48, 48] (49 : Int).toNat.toUInt8 = -1 from by decide] at this
  exact this)
 rw [echo_val]
 go_enter Tryz.func161, Tryz.ntmps161
 go_wp2_with fail
 (with_reducible refine (HI.out _).mono ?_); rintro e w2 ⟨rfl, rfl⟩
 go_wp2_with fail
 go_ret
 exact ⟨rfl, HB.out.alloc (Nat.le_refl _) _⟩
theorem isName_echo (w : World) :
  Calls Tryz.prog 251 #[.string (T [101, 99, 104, 111])] w fun e w' => e = .returned (.bool true) ∧ w' = w := by
 have h0 : (T [101, 99, 104, 111]).size = 4 := rfl
 have k0 : ∀ h, ((T [101, 99, 104, 111])[0]'h).toNat = 101 := fun _ => rfl
 have k1 : ∀ h, ((T [101, 99, 104, 111])[1]'h).toNat = 99 := fun _ => rfl
 have k2 : ∀ h, ((T [101, 99, 104, 111])[2]'h).toNat = 104 := fun _ => rfl
 have k3 : ∀ h, ((T [101, 99, 104, 111])[3]'h).toNat = 111 := fun _ => rfl
 go_enter Tryz.func251, Tryz.ntmps251
 go_wp2_with fail
 refine wp_loop_rounds 5 ?_
 rw [rounds_succ]
 go_wp2_with fail
 rw [rounds_succ]
 go_wp2_with fail
 rw [rounds_succ]
 go_wp2_with fail
 rw [rounds_succ]
 go_wp2_with fail
 rw [rounds_succ]
 go_wp2_with fail
 go_ret
 exact ⟨rfl, rfl⟩
def Lx.keys : List UInt8 := [32, 105, 102, 32, 110, 111, 116, 32, 119, 104, 105, 108, 101, 32, 102, 111, 114, 32, 105, 110, 32, 115, 119, 105, 116, 99, 104, 32, 99, 97, 115, 101, 32, 102, 110, 32, 126, 32]
theorem isKeyword_echo (m : Int) (w : World) (hm : w.cell? ⟨0, 0, none⟩ = some (.int .i64 m)) :
  Calls Tryz.prog 162 #[.string (T [101, 99, 104, 111])] w fun e w' => e = .returned (.bool false) ∧ w' = w := by
 have HI := lh (show ∀ (W : World), Calls Tryz.prog 38 #[.string (T [101, 99, 104, 111]), .int .u8 32] W fun e w' => e = .returned (.int .i64 (-1)) ∧ w' = W from fun W => by
  have := strings_IndexByte (T [101, 99, 104, 111]) 32 W
  rw [T_list, show Lib.indexByte [101, 99, 104, 111] (32 : Int).toNat.toUInt8 = -1 from by decide] at this
  exact this)
 have HC := lh (show Calls Tryz.prog 203 #[.string (T [32, 105, 102, 32, 110, 111, 116, 32, 119, 104, 105, 108, 101, 32, 102, 111, 114, 32, 105, 110, 32, 115, 119, 105, 116, 99, 104, 32, 99, 97, 115, 101, 32, 102, 110, 32, 126, 32]), .string (T [32, 101, 99, 104, 111, 32])] w fun e w' => e = .returned (.bool false) ∧ w' = w from by
  have := strings_Contains (T Lx.keys) (T [32, 101, 99, 104, 111, 32]) m w (by decide) hm
  rw [T_list, T_list, show Lib.contains Lx.keys [32, 101, 99, 104, 111, 32] = false from by decide] at this
  exact this)
 have h0 : (T [101, 99, 104, 111]).size = 4 := rfl
 clear hm
 go_enter Tryz.func162, Tryz.ntmps162
 go_wp2_with fail
 (with_reducible refine (HI.out _).mono ?_); rintro e w2 ⟨rfl, rfl⟩
 go_wp2_with fail
 refine (HC.out).mono ?_; rintro e w3 ⟨rfl, rfl⟩
 go_wp2_with fail
 go_ret
 exact ⟨rfl, rfl⟩
theorem keyword_echo (p : Nat) (m : Int) (w : World) (hm : w.cell? ⟨0, 0, none⟩ = some (.int .i64 m)) :
  Calls Tryz.prog 96 #[tkval (echoTok p)] w fun e w' => e = .returned (.string (T [])) ∧ Below w.heap.size w w' := by
 have hg0 : 0 < w.heap.size := block_lt_of_cell hm
 have HB := lh (show Below w.heap.size w (w.alloc (.cells #[.int .i64 1, .int .i64 (p : Int), .string (T [101, 99, 104, 111]), .string (T [48, 48, 48, 48])] 132)) from (Below.refl w.heap.size w).alloc (Nat.le_refl _) _)
 have HN := lh (heap_alloc_new w (.cells #[.int .i64 1, .int .i64 (p : Int), .string (T [101, 99, 104, 111]), .string (T [48, 48, 48, 48])] 132))
 have HP := lh (plain_echo p)
 have HK := lh (fun (W : World) hm => isKeyword_echo m W hm)
 have HM := lh hm
 clear hm
 rw [echo_val] at HP ⊢
 go_enter Tryz.func96, Tryz.ntmps96
 go_wp2_with fail
 generalize World.alloc _ _ = w1 at *
 (with_reducible refine (HP.out _).mono ?_); rintro e w2 ⟨rfl, b2⟩
 have HB2 := lh (bnext HB.out b2)
 have HN2 := lh ((b2.block _ (row_ltP HN.out)).trans HN.out)
 clear b2
 have HM2 := lh ((HB2.out.cell (p := ⟨0, 0, none⟩) hg0).trans HM.out)
 obtain ⟨q0, q1, q2, q3⟩ := four_cells HN2.out
 go_wp2_with fail
 (with_reducible refine (HK.out _ HM2.out).mono ?_); rintro e w3 ⟨rfl, rfl⟩
 go_wp2_with fail
 go_ret
 exact ⟨rfl, HB2.out⟩
theorem begins_yes (g n : Nat) (l : List Tok) (w : World) (h : PrS w g l n) (hl : l.length ≤ 1000) (hn : n < l.length) (hw : Wds l) :
  Calls Tryz.prog 94 #[.pointer (some ⟨g, 0, none⟩), .bool false] w fun e w' => e = .returned (.bool true) ∧ Below w.heap.size w w' := by
 have HT := lh (ptok0 g n l w h hl (by omega))
 have HI := lh (fun (W : World) => begw_yes (tkAt l n) W (hw.in hn))
 clear hl hn hw h
 unfold tkval at HT HI
 generalize tkAt l n = t at *
 go_enter Tryz.func94, Tryz.ntmps94
 go_wp2_with fail
 (with_reducible refine HT.out.mono ?_); rintro e w1 ⟨rfl, b1⟩
 have HB1 := lh b1
 clear b1
 go_wp2_with fail
 have HB2 := lh (HB1.out.alloc HB1.out.size (.cells #[.int .i64 t.kind, .int .i64 (t.pos : Int), .string (T t.text), .string (T t.quoted)] 132))
 (with_reducible refine (HI.out _).mono ?_); rintro e w2 ⟨rfl, b2⟩
 have HB3 := lh (bnext HB2.out b2)
 clear b2
 go_wp2_with fail
 go_ret
 exact ⟨rfl, HB3.out⟩
def twv (t : Tok) : Value := .agg #[.int .i64 1, .string (T t.text), .string (T t.quoted), .slice none 0 0, .slice none 0 0]
theorem five_stored {W : World} {g : Nat} {a b c d x v0 v1 v2 v3 v4 : Value} {t : TypeId} (h : W.heap[g]? = some (.cells #[a, b, c, d, x] t (0, 0))) :
  (((((W.setCell ⟨g, 0, none⟩ v0).setCell ⟨g, 1, none⟩ v1).setCell ⟨g, 2, none⟩ v2).setCell ⟨g, 3, none⟩ v3).setCell ⟨g, 4, none⟩ v4).heap[g]? = some (.cells #[v0, v1, v2, v3, v4] t (0, 0)) := by
 have h0 := heap_setCell_same W g 0 _ _ v0 h
 have h1 := heap_setCell_same _ g 1 _ _ v1 h0
 have h2 := heap_setCell_same _ g 2 _ _ v2 h1
 have h3 := heap_setCell_same _ g 3 _ _ v3 h2
 exact heap_setCell_same _ g 4 _ _ v4 h3
theorem five_cells {W : World} {g : Nat} {a b c d x : Value} {t : TypeId} (h : W.heap[g]? = some (.cells #[a, b, c, d, x] t (0, 0))) :
  W.cell? ⟨g, 0, none⟩ = some a ∧ W.cell? ⟨g, 1, none⟩ = some b ∧ W.cell? ⟨g, 2, none⟩ = some c ∧ W.cell? ⟨g, 3, none⟩ = some d ∧ W.cell? ⟨g, 4, none⟩ = some x := by
 refine ⟨?_, ?_, ?_, ?_, ?_⟩ <;> (rw [Lib.cell_of_heap h]; rfl)
theorem five_frozen {W : World} {g : Nat} {a b c d x : Value} {t : TypeId} (h : W.heap[g]? = some (.cells #[a, b, c, d, x] t (0, 0))) :
  W.frozen? ⟨g, 0, none⟩ = false ∧ W.frozen? ⟨g, 1, none⟩ = false ∧ W.frozen? ⟨g, 2, none⟩ = false ∧ W.frozen? ⟨g, 3, none⟩ = false ∧ W.frozen? ⟨g, 4, none⟩ = false := by
 refine ⟨?_, ?_, ?_, ?_, ?_⟩ <;> exact Lib.frozen_of_heap h _
theorem below_five {B g : Nat} {w W : World} (h : Below B w W) (hg : B ≤ g) (v0 v1 v2 v3 v4 : Value) : Below B w (((((W.setCell ⟨g, 0, none⟩ v0).setCell ⟨g, 1, none⟩ v1).setCell ⟨g, 2, none⟩ v2).setCell ⟨g, 3, none⟩ v3).setCell ⟨g, 4, none⟩ v4) :=
 ((((h.setCell (p := ⟨g, 0, none⟩) hg _).setCell (p := ⟨g, 1, none⟩) hg _).setCell (p := ⟨g, 2, none⟩) hg _).setCell (p := ⟨g, 3, none⟩) hg _).setCell (p := ⟨g, 4, none⟩) hg _
theorem five_grown {W : World} (g : Nat) (v0 v1 v2 v3 v4 : Value) : W.grownBy (((((W.setCell ⟨g, 0, none⟩ v0).setCell ⟨g, 1, none⟩ v1).setCell ⟨g, 2, none⟩ v2).setCell ⟨g, 3, none⟩ v3).setCell ⟨g, 4, none⟩ v4) (some g) :=
 grown_setG (grown_setG (grown_setG (grown_setG (grown_setG (below_grownBy (Below.refl _ W) (some g)) 0 v0) 1 v1) 2 v2) 3 v3) 4 v4
theorem own_neP {w : World} {base : Nat} {e e2 : TypeId} {size n p : Nat} {v : Value} {xs : List Value} {cs : Array Value} {fr : Nat × Nat} (h : w.ownsRow base e size v n xs) (hp : w.heap[p]? = some (.cells cs e2 fr)) (hne : e ≠ e2) : v.ownBlock ≠ some p := by
 intro hv
 rcases h.2 with ⟨rfl, _⟩ | ⟨g, cap, cur, rfl, hg, hrow, hrest⟩
 ·simp [Value.ownBlock] at hv
 ·simp only [Value.ownBlock, Option.some.injEq] at hv
  subst hv
  rw [hp] at hrow
  injection hrow with hrow
  injection hrow with _ hrow _
  exact hne hrow.symm
/-- A write into a block of another type leaves the parser alone. -/
theorem PrS.other {W W' : World} {g n p : Nat} {l : List Tok} {cs : Array Value} {e2 : TypeId} {fr : Nat × Nat} (h : PrS W g l n) (hp : W.heap[p]? = some (.cells cs e2 fr)) (hne : 132 ≠ e2) (hpg : p ≠ g) (hg : W.grownBy W' (some p)) : PrS W' g l n := by
 obtain ⟨x, tv, dv, B, h1, h2, h3⟩ := h
 exact ⟨x, tv, dv, B, (hg.block _ (row_ltP h1) (fun e => hpg (Option.some.inj e).symm)).trans h1, h2.kept hg (Or.inr (own_neP h2 hp hne)), h3⟩
/-- What grows by a new block alone. -/
theorem grown_new {w W W' : World} {g p : Nat} (h : w.grownBy W (some g)) (hg : W.grownBy W' (some p)) (hp : w.heap.size ≤ p) : w.grownBy W' (some g) :=
 ⟨hg.os.trans h.os, hg.tape.trans h.tape, hg.output.trans h.output, Nat.le_trans h.size hg.size, fun i hi hn => (hg.block i (Nat.lt_of_lt_of_le hi h.size) (fun e => by cases e; omega)).trans (h.block i hi hn)⟩
/-- A new row of zeros: the result's place. -/
abbrev wzero : Obj := .cells #[.int .i64 0, .string (T []), .string (T []), .slice none 0 0, .slice none 0 0] 36
abbrev tkobj (t : Tok) : Obj := .cells #[.int .i64 t.kind, .int .i64 (t.pos : Int), .string (T t.text), .string (T t.quoted)] 132
theorem piece_any (g n : Nat) (l : List Tok) (w : World) (h : PrS w g l n) (hl : l.length ≤ 1000) (hn : n < l.length) (hw : Wds l) :
  Calls Tryz.prog 277 #[.pointer (some ⟨g, 0, none⟩)] w fun e w' => e = .returned (twv (tkAt l n)) ∧ PrS w' g l (n + 1) ∧ w.grownBy w' (some g) := by
 have hgl := h.lt
 have HB0 := lh (show Below w.heap.size w (w.alloc wzero) from (Below.refl _ w).alloc (Nat.le_refl _) _)
 have HZ0 := lh (heap_alloc_new w wzero)
 have HS0 := lh (h.next HB0.out)
 have HT := lh (fun (W : World) (h : PrS W g l n) => ptok0 g n l W h hl (by omega))
 have HI := lh (fun (W : World) => begw_yes (tkAt l n) W (hw.in hn))
 have hk1 := hw.in hn
 have hb : (n : Int) ≤ 1000 := by omega
 have hgne : g ≠ w.heap.size := by omega
 clear h hl hn hw
 unfold tkval at HT HI
 unfold twv
 generalize tkAt l n = t at *
 have HA := lh (fun (W : World) => show Below W.heap.size W (W.alloc (tkobj t)) from (Below.refl _ W).alloc (Nat.le_refl _) _)
 have HN := lh (fun (W : World) => heap_alloc_new W (tkobj t))
 unfold tkobj at HA HN
 rw [hk1] at HT HI HA HN
 clear hk1
 go_enter Tryz.func277, Tryz.ntmps277
 go_wp2_with fail
 generalize hw0 : World.alloc _ _ = w0 at *
 clear hw0
 (with_reducible refine (HT.out _ HS0.out).mono ?_); rintro e w1 ⟨rfl, b1⟩
 have HS1 := lh (HS0.out.next b1)
 have HZ1 := lh ((b1.block _ (row_ltP HZ0.out)).trans HZ0.out)
 have HB1 := lh (bnext HB0.out b1)
 clear b1 HS0 HZ0 HB0 HT
 go_wp2_with fail
 have HS2 := lh (HS1.out.next (HA.out w1))
 have HZ2 := lh (((HA.out w1).block _ (row_ltP HZ1.out)).trans HZ1.out)
 have HB2 := lh (bnext HB1.out (HA.out w1))
 have HK2 := lh (HN.out w1)
 have htb : w.heap.size < w1.heap.size := row_ltP HZ1.out
 generalize hw2 : w1.alloc _ = w2 at *
 generalize w1.heap.size = tb at *
 clear hw2 HS1 HZ1 HB1 HA HN
 (with_reducible refine (HI.out _).mono ?_); rintro e w3 ⟨rfl, b3⟩
 have HS3 := lh (HS2.out.next b3)
 have HZ3 := lh ((b3.block _ (row_ltP HZ2.out)).trans HZ2.out)
 have HK3 := lh ((b3.block _ (row_ltP HK2.out)).trans HK2.out)
 have HB3 := lh (bnext HB2.out b3)
 clear b3 HS2 HZ2 HB2 HK2 HI
 obtain ⟨x, tv, dv, B, hr, _, _⟩ := HS3.out
 obtain ⟨⟨r0, r1, r2, r3⟩, f3⟩ := hr.reads
 have HS4 := lh HS3.out.step
 have HG4 := lh (grown_setG (below_grownBy HB3.out (some g)) 3 (.int .i64 ((n : Int) + 1)))
 have HZ4 := lh ((Below.heap_setCell w3 ⟨g, 3, none⟩ (.int .i64 ((n : Int) + 1)) w.heap.size (by show w.heap.size ≠ g; omega)).trans HZ3.out)
 have HK4 := lh ((Below.heap_setCell w3 ⟨g, 3, none⟩ (.int .i64 ((n : Int) + 1)) tb (by show tb ≠ g; omega)).trans HK3.out)
 clear hr HS3 HZ3 HK3 HB3
 go_upto_region 5 with fail
 generalize hw4 : World.setCell _ _ _ = w4 at *
 clear hw4 r0 r1 r2 r3 f3
 obtain ⟨k0, k1, k2, k3⟩ := four_cells HK4.out
 obtain ⟨z0, z1, z2, z3, z4⟩ := five_cells HZ4.out
 obtain ⟨y0, y1, y2, y3, y4⟩ := five_frozen HZ4.out
 go_wp2_with fail
 have hq := five_stored (v0 := .int .i64 1) (v1 := .string (T t.text)) (v2 := .string (T t.quoted)) (v3 := .slice none 0 0) (v4 := .slice none 0 0) HZ4.out
 obtain ⟨q0, q1, q2, q3, q4⟩ := five_cells hq
 exact bodyPost_ret (v := .agg #[.int .i64 1, .string (T t.text), .string (T t.quoted), .slice none 0 0, .slice none 0 0]) (by simp [results, Tryz.results277, go_sem, q0, q1, q2, q3, q4]) rfl ⟨rfl, HS4.out.other HZ4.out (by decide) (by omega) (five_grown _ _ _ _ _ _), grown_new HG4.out (five_grown _ _ _ _ _ _) (Nat.le_refl _)⟩
abbrev wobj (t : Tok) : Obj := .cells #[.int .i64 1, .string (T t.text), .string (T t.quoted), .slice none 0 0, .slice none 0 0] 36
theorem pword_any (g n : Nat) (l : List Tok) (w : World) (h : PrS w g l n) (hl : l.length ≤ 900) (hn : n < l.length) (hw : Wds l) :
  Calls Tryz.prog 268 #[.pointer (some ⟨g, 0, none⟩)] w fun e w' => e = .returned (twv (tkAt l n)) ∧ PrS w' g l (n + 1) ∧ w.grownBy w' (some g) := by
 have hgl := h.lt
 have HB0 := lh (show Below w.heap.size w (w.alloc wzero) from (Below.refl _ w).alloc (Nat.le_refl _) _)
 have HZ0 := lh (heap_alloc_new w wzero)
 have HS0 := lh (h.next HB0.out)
 have HT := lh (fun (W : World) (h : PrS W g l n) => piece_any g n l W h (by omega) hn hw)
 have HC := lh (fun (W : World) (h : PrS W g l (n + 1)) => accept_not g (n + 1) l (T [94]) W h (by omega) (by omega) hw)
 clear h hl hn hw
 unfold twv at *
 generalize tkAt l n = t at *
 have HA := lh (fun (W : World) => show Below W.heap.size W (W.alloc (wobj t)) from (Below.refl _ W).alloc (Nat.le_refl _) _)
 have HN := lh (fun (W : World) => heap_alloc_new W (wobj t))
 unfold wobj at HA HN
 go_enter Tryz.func268, Tryz.ntmps268
 go_wp2_with fail
 generalize hw0 : World.alloc _ _ = w0 at *
 clear hw0
 (with_reducible refine (HT.out _ HS0.out).mono ?_); rintro e w1 ⟨rfl, hs1, g1⟩
 have HS1 := lh hs1
 have HZ1 := lh ((g1.block _ (row_ltP HZ0.out) (fun e => by cases e; omega)).trans HZ0.out)
 have HG1 := lh ((below_grownBy HB0.out (some g)).trans g1)
 clear hs1 g1 HS0 HZ0 HB0 HT
 go_wp2_with fail
 have HS2 := lh (HS1.out.next (HA.out w1))
 have HZ2 := lh (((HA.out w1).block _ (row_ltP HZ1.out)).trans HZ1.out)
 have HG2 := lh (HG1.out.trans (below_grownBy (HA.out w1) (some g)))
 have HK2 := lh (HN.out w1)
 have htb : w.heap.size < w1.heap.size := row_ltP HZ1.out
 generalize hw2 : w1.alloc _ = w2 at *
 generalize w1.heap.size = tb at *
 clear hw2 HS1 HZ1 HG1 HA HN
 refine wp_loop_rounds 1 ?_
 rw [rounds_succ]
 go_wp2_with fail
 (with_reducible refine (HC.out _ HS2.out).mono ?_); rintro e w3 ⟨rfl, b3⟩
 have HS3 := lh (HS2.out.next b3)
 have HZ3 := lh ((b3.block _ (row_ltP HZ2.out)).trans HZ2.out)
 have HK3 := lh ((b3.block _ (row_ltP HK2.out)).trans HK2.out)
 have HG3 := lh (HG2.out.trans (below_grownBy b3 (some g)))
 clear b3 HS2 HZ2 HG2 HK2 HC
 obtain ⟨k0, k1, k2, k3, k4⟩ := five_cells HK3.out
 obtain ⟨z0, z1, z2, z3, z4⟩ := five_cells HZ3.out
 obtain ⟨y0, y1, y2, y3, y4⟩ := five_frozen HZ3.out
 go_wp2_with fail
 have hq := five_stored (v0 := .int .i64 1) (v1 := .string (T t.text)) (v2 := .string (T t.quoted)) (v3 := .slice none 0 0) (v4 := .slice none 0 0) HZ3.out
 obtain ⟨q0, q1, q2, q3, q4⟩ := five_cells hq
 exact bodyPost_ret (v := .agg #[.int .i64 1, .string (T t.text), .string (T t.quoted), .slice none 0 0, .slice none 0 0]) (by simp [results, Tryz.results268, go_sem, q0, q1, q2, q3, q4]) rfl ⟨rfl, HS3.out.other HZ3.out (by decide) (by omega) (five_grown _ _ _ _ _ _), grown_new HG3.out (five_grown _ _ _ _ _ _) (Nat.le_refl _)⟩
end Go.Proofs.YtfibaopngpfmjaaGreatDoor
