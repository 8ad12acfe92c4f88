/- The parser's simple command. Conditions: those that each theorem names. -/
import Derived.Test.YtfibaopngpfmjaaGreatDoorRzA6
import Derived.Deep.RegionHeldLaw
set_option linter.unusedVariables false
set_option linter.unusedSimpArgs false
set_option maxRecDepth 100000
set_option maxHeartbeats 8000000
namespace Go.Proofs.YtfibaopngpfmjaaGreatDoor
open Go.RowKit Go.Proofs
def twc (t : Tok) : List Value := [.int .i64 1, .string (T t.text), .string (T t.quoted), .slice none 0 0, .slice none 0 0]
def wds (l : List Tok) : List Value := l.flatMap twc
theorem wds_length (l : List Tok) : (wds l).length = l.length * 5 := by
 induction l with
 | nil => rfl
 | cons t l ih =>
  have : wds (t :: l) = twc t ++ wds l := rfl
  rw [this, List.length_append, ih]
  simp [twc]; omega
theorem twc_one (t : Tok) : ∀ u ∈ twc t, u.oneCell' = true := by
 intro u hu
 simp only [twc, List.mem_cons, List.not_mem_nil, or_false] at hu
 rcases hu with rfl | rfl | rfl | rfl | rfl <;> rfl
theorem wds_take (l : List Tok) (n : Nat) (hn : n < l.length) : wds (l.take n) ++ twc (tkAt l n) = wds (l.take (n + 1)) := by
 have : l.take (n + 1) = l.take n ++ [tkAt l n] := by
  rw [List.take_add_one]
  unfold tkAt
  rw [List.getD_eq_getElem?_getD, List.getElem?_eq_getElem hn]
  rfl
 rw [this]
 simp [wds]
theorem six_stored {W : World} {g : Nat} {a b c d x y v0 v1 v2 v3 v4 v5 : Value} {t : TypeId} (h : W.heap[g]? = some (.cells #[a, b, c, d, x, y] t (0, 0))) :
  ((((((W.setCell ⟨g, 0, none⟩ v0).setCell ⟨g, 1, none⟩ v1).setCell ⟨g, 2, none⟩ v2).setCell ⟨g, 3, none⟩ v3).setCell ⟨g, 4, none⟩ v4).setCell ⟨g, 5, none⟩ v5).heap[g]? = some (.cells #[v0, v1, v2, v3, v4, v5] t (0, 0)) := by
 have h0 := heap_setCell_same W g 0 _ _ v0 h
 have h1 := heap_setCell_same _ g 1 _ _ v1 h0
 have h2 := heap_setCell_same _ g 2 _ _ v2 h1
 have h3 := heap_setCell_same _ g 3 _ _ v3 h2
 have h4 := heap_setCell_same _ g 4 _ _ v4 h3
 exact heap_setCell_same _ g 5 _ _ v5 h4
theorem six_cells {W : World} {g : Nat} {a b c d x y : Value} {t : TypeId} (h : W.heap[g]? = some (.cells #[a, b, c, d, x, y] t (0, 0))) :
  W.cell? ⟨g, 0, none⟩ = some a ∧ W.cell? ⟨g, 1, none⟩ = some b ∧ W.cell? ⟨g, 2, none⟩ = some c ∧ W.cell? ⟨g, 3, none⟩ = some d ∧ W.cell? ⟨g, 4, none⟩ = some x ∧ W.cell? ⟨g, 5, none⟩ = some y := by
 refine ⟨?_, ?_, ?_, ?_, ?_, ?_⟩ <;> (rw [Lib.cell_of_heap h]; rfl)
theorem six_frozen {W : World} {g : Nat} {a b c d x y : Value} {t : TypeId} (h : W.heap[g]? = some (.cells #[a, b, c, d, x, y] t (0, 0))) :
  W.frozen? ⟨g, 0, none⟩ = false ∧ W.frozen? ⟨g, 1, none⟩ = false ∧ W.frozen? ⟨g, 2, none⟩ = false ∧ W.frozen? ⟨g, 3, none⟩ = false ∧ W.frozen? ⟨g, 4, none⟩ = false ∧ W.frozen? ⟨g, 5, none⟩ = false := by
 refine ⟨?_, ?_, ?_, ?_, ?_, ?_⟩ <;> exact Lib.frozen_of_heap h _
theorem six_grown {W : World} (g : Nat) (v0 v1 v2 v3 v4 v5 : Value) : W.grownBy ((((((W.setCell ⟨g, 0, none⟩ v0).setCell ⟨g, 1, none⟩ v1).setCell ⟨g, 2, none⟩ v2).setCell ⟨g, 3, none⟩ v3).setCell ⟨g, 4, none⟩ v4).setCell ⟨g, 5, none⟩ v5) (some g) :=
 grown_setG (five_grown g v0 v1 v2 v3 v4) 5 v5
abbrev czero : Obj := .cells #[.int .i64 0, .int .i64 0, .string (T []), .slice none 0 0, .slice none 0 0, .slice none 0 0] 31
/-- The state of simple: j words are read. -/
def SiSt (w W : World) (g cb : Nat) (l : List Tok) (p : Int) (j : Nat) (wv : Value) : Prop :=
 PrS W g l j ∧ W.heap[w.heap.size]? = some (.cells #[.int .i64 0, .int .i64 0, .string (T []), .slice none 0 0, .slice none 0 0, .slice none 0 0] 31 (0, 0)) ∧
 W.heap[cb]? = some (.cells #[.int .i64 1, .int .i64 p, .string (T []), wv, .slice none 0 0, .slice none 0 0] 31 (0, 0)) ∧
 W.ownsRow (cb + 1) 36 5 wv j (wds (l.take j)) ∧ w.grownBy W (some g) ∧ w.heap.size < cb ∧ g < w.heap.size
theorem SiSt.far {w W W' : World} {g cb : Nat} {l : List Tok} {p : Int} {j j' : Nat} {wv : Value} (h : SiSt w W g cb l p j wv) (hs : PrS W' g l j') (hg : W.grownBy W' (some g)) :
  PrS W' g l j' ∧ W'.heap[w.heap.size]? = some (.cells #[.int .i64 0, .int .i64 0, .string (T []), .slice none 0 0, .slice none 0 0, .slice none 0 0] 31 (0, 0)) ∧
 W'.heap[cb]? = some (.cells #[.int .i64 1, .int .i64 p, .string (T []), wv, .slice none 0 0, .slice none 0 0] 31 (0, 0)) ∧
 W'.ownsRow (cb + 1) 36 5 wv j (wds (l.take j)) ∧ w.grownBy W' (some g) ∧ w.heap.size < cb ∧ g < w.heap.size := by
 obtain ⟨h1, h2, h3, h4, h5, h6, h7⟩ := h
 refine ⟨hs, (hg.block _ (row_ltP h2) (fun e => by cases e; omega)).trans h2, (hg.block _ (row_ltP h3) (fun e => by cases e; omega)).trans h3, h4.kept hg (Or.inr (own_not h4 (by omega))), h5.trans hg, h6, h7⟩
theorem SiSt.next {w W W' : World} {g cb : Nat} {l : List Tok} {p : Int} {j : Nat} {wv : Value} (h : SiSt w W g cb l p j wv) (hb : Below W.heap.size W W') : SiSt w W' g cb l p j wv :=
 h.far (h.1.next hb) (below_grownBy hb (some g))
theorem own_apartP {w : World} {b1 b2 : Nat} {e1 e2 : TypeId} {z1 z2 n1 n2 : Nat} {v1 v2 : Value} {xs1 xs2 : List Value} (h1 : w.ownsRow b1 e1 z1 v1 n1 xs1) (h2 : w.ownsRow b2 e2 z2 v2 n2 xs2) (hne : e1 ≠ e2) : v1.ownBlock = none ∨ v1.ownBlock ≠ v2.ownBlock := by
 rcases h2.2 with ⟨rfl, _⟩ | ⟨k, cap, cur, rfl, _, hk, _⟩
 ·rcases hx : v1.ownBlock with _ | k
  ·exact .inl rfl
  ·exact .inr fun e => by cases e
 ·exact .inr (own_neP h1 hk hne)
theorem grown_row {w W W' : World} {g : Nat} {r : Option Nat} (h : w.grownBy W (some g)) (hg : W.grownBy W' r) (hr : ∀ p, r = some p → w.heap.size ≤ p) : w.grownBy W' (some g) :=
 ⟨hg.os.trans h.os, hg.tape.trans h.tape, hg.output.trans h.output, Nat.le_trans h.size hg.size, fun i hi hn => (hg.block i (Nat.lt_of_lt_of_le hi h.size) (fun e => by have := hr i e.symm; omega)).trans (h.block i hi hn)⟩
theorem alloc_below (W : World) (o : Obj) : Below W.heap.size W (W.alloc o) := (Below.refl _ W).alloc (Nat.le_refl _) o
theorem cell_alloc {W : World} {b o : Nat} {v : Value} (h : W.cell? ⟨b, o, none⟩ = some v) (x : Obj) : (W.alloc x).cell? ⟨b, o, none⟩ = some v := cell_below (alloc_below W x) (block_lt_of_cell h) h
theorem si_push {w W w7 : World} {g cb : Nat} {l : List Tok} {p : Int} {j : Nat} {v v7 : Value} {o : Obj} {xs : List Value}
  (h : PrS W g l (j + 1) ∧ W.heap[w.heap.size]? = some (.cells #[.int .i64 0, .int .i64 0, .string (T []), .slice none 0 0, .slice none 0 0, .slice none 0 0] 31 (0, 0)) ∧
 W.heap[cb]? = some (.cells #[.int .i64 1, .int .i64 p, .string (T []), v, .slice none 0 0, .slice none 0 0] 31 (0, 0)) ∧
 W.ownsRow (cb + 1) 36 5 v j (wds (l.take j)) ∧ w.grownBy W (some g) ∧ w.heap.size < cb ∧ g < w.heap.size)
  (hown : w7.ownsRow (cb + 1) 36 5 v7 (j + 1) xs) (hx : xs = wds (l.take (j + 1))) (hgrow : (W.alloc o).grownBy w7 v.ownBlock) : SiSt w (w7.setCell ⟨cb, 3, none⟩ v7) g cb l p (j + 1) v7 := by
 obtain ⟨h1, h2, h3, h4, h5, h6, h7⟩ := h
 have hg : W.grownBy w7 v.ownBlock := (below_grownBy (alloc_below W o) _).trans hgrow
 have hc7 : w7.heap[cb]? = some (.cells #[.int .i64 1, .int .i64 p, .string (T []), v, .slice none 0 0, .slice none 0 0] 31 (0, 0)) := (hg.block cb (row_ltP h3) (fun e => own_not h4 (Nat.lt_succ_self _) e.symm)).trans h3
 have hset : w7.grownBy (w7.setCell ⟨cb, 3, none⟩ v7) (some cb) := grown_setG (below_grownBy (Below.refl _ w7) (some cb)) 3 v7
 have hp7 : PrS w7 g l (j + 1) := by
  obtain ⟨x, tv, dv, B, a1, a2, a3⟩ := h1
  exact ⟨x, tv, dv, B, (hg.block g (row_ltP a1) (fun e => own_not h4 (g := g) (by omega) e.symm)).trans a1, a2.kept hg (own_apartP a2 h4 (by decide)), a3⟩
 subst hx
 refine ⟨hp7.other hc7 (by decide) (by omega) hset, ?_, heap_setCell_same w7 cb 3 _ _ v7 hc7, hown.kept hset (Or.inr (own_not hown (Nat.lt_succ_self _))), ?_, h6, h7⟩
 ·exact (hset.block _ (by have := row_ltP hc7; omega) (fun e => by cases e; omega)).trans ((hg.block _ (row_ltP h2) (fun e => own_not h4 (g := w.heap.size) (by omega) e.symm)).trans h2)
 ·refine grown_new (grown_row h5 hg (fun q hq => ?_)) hset (by omega)
  have := (h4.lt q hq).1
  omega
theorem simple_any (g : Nat) (l : List Tok) (w : World) (h : PrS w g l 0) (hl : l.length ≤ 900) (hl0 : 0 < l.length) (hw : Wds l) :
  Calls Tryz.prog 260 #[.pointer (some ⟨g, 0, none⟩)] w fun e w' => ∃ (p : Int) (wv : Value), e = .returned (.agg #[.int .i64 1, .int .i64 p, .string (T []), wv, .slice none 0 0, .slice none 0 0]) ∧ w'.ownsRow w.heap.size 36 5 wv l.length (wds l) ∧ PrS w' g l l.length ∧ w.grownBy w' (some g) := by
 obtain ⟨i0, hi, hz0, hz1, hz2⟩ := info_parts (P := Tryz.prog) (e := 36) (z := .agg #[.int .i64 0, .string ByteArray.empty, .string ByteArray.empty, .slice none 0 0, .slice none 0 0]) (size := 5) (bytes := 88) (by kernel_rfl)
 have hgl := h.lt
 have HB0 := lh (alloc_below w czero)
 have HZ0 := lh (heap_alloc_new w czero)
 have HS0 := lh (h.next HB0.out)
 have HT := lh (fun (j : Nat) (W : World) (h : PrS W g l j) (hj : j ≤ 1000) => ptok0 g j l W h (by omega) hj)
 have HA := lh (And.intro hl (And.intro hw hl0))
 have hfd := fld_tok1
 clear h hl hw hl0
 unfold tkval at HT
 go_enter Tryz.func260, Tryz.ntmps260
 go_wp2_with fail
 generalize hw0 : World.alloc _ _ = w0 at *
 clear hw0
 (with_reducible refine (HT.out 0 _ HS0.out (by omega)).mono ?_); rintro e w1 ⟨rfl, b1⟩
 have HS1 := lh (HS0.out.next b1)
 have HZ1 := lh ((b1.block _ (row_ltP HZ0.out)).trans HZ0.out)
 have HG1 := lh (below_grownBy (bnext HB0.out b1) (some g))
 clear b1 HS0 HZ0 HB0
 generalize hp : (tkAt l 0).pos = p at *
 clear hp
 go_wp2_with fail
 have HI := lh (show SiSt w (w1.alloc (.cells #[.int .i64 1, .int .i64 (p : Int), .string (T []), .slice none 0 0, .slice none 0 0, .slice none 0 0] 31)) g w1.heap.size l (p : Int) 0 (.slice none 0 0) from
  ⟨HS1.out.next (alloc_below _ _), ((alloc_below w1 _).block _ (row_ltP HZ1.out)).trans HZ1.out, heap_alloc_new w1 _, ⟨rfl, .inl ⟨rfl, rfl⟩⟩, HG1.out.trans (below_grownBy (alloc_below w1 _) (some g)), row_ltP HZ1.out, hgl⟩)
 clear HS1 HZ1 HG1
 generalize hw2 : w1.alloc _ = w2 at *
 generalize hcb : w1.heap.size = cb at *
 clear hw2 hcb
 go_loopg [] l.length (fun k W => ∃ j wv, SiSt w W g cb l (p : Int) j wv ∧ j ≤ l.length ∧ k = l.length - j)
 case atStart => exact ⟨0, _, HI.out, Nat.zero_le _, rfl⟩
 case round =>
  obtain ⟨j, wv, hst, hjl, hk⟩ := hrel
  obtain ⟨ao, cap, rfl, _⟩ := own_form hst.2.2.2.1
  have HS := lh hst
  have HJ := lh (And.intro hjl hk)
  have hjb : j ≤ 900 := by have := HA.out.1; omega
  clear hst hjl hk HI
  obtain ⟨b, e0⟩ : ∃ b, ((j : Int) == 0) = b := ⟨_, rfl⟩
  go_wp2_with fail
  have hps := HS.out.1
  (with_reducible refine (HT.out j _ hps (by omega)).mono ?_); rintro e w3 ⟨rfl, b3⟩
  have HS3 := lh (HS.out.next b3)
  have hcl : cb < w3.heap.size := row_ltP HS3.out.2.2.1
  clear b3 HS hps
  rcases Nat.lt_or_ge j l.length with hlt | hge
  ·have hk1 := HA.out.2.1.in hlt
   have HW := lh (fun (W : World) (h : PrS W g l j) => pword_any g j l W h HA.out.1 hlt HA.out.2.1)
   have HBW := lh (fun (W : World) => begw_yes (tkAt l j) W hk1)
   have HTK := lh (wds_take l j hlt)
   have HLT := lh hlt
   clear hlt
   unfold tkval at HBW
   unfold twv at HW
   rw [hk1] at HBW ⊢
   generalize tkAt l j = t at *
   have HN := lh (heap_alloc_new w3 (.cells #[.int .i64 1, .int .i64 (t.pos : Int), .string (T t.text), .string (T t.quoted)] 132))
   have HS4 := lh (HS3.out.next (alloc_below w3 (.cells #[.int .i64 1, .int .i64 (t.pos : Int), .string (T t.text), .string (T t.quoted)] 132)))
   clear hk1 HS3
   cases b
   all_goals
    go_upto_region 4 with fail
    generalize hw4 : w3.alloc _ = w4 at *
    generalize w3.heap.size = tb at *
    clear hw4
    obtain ⟨k0, k1, k2, k3⟩ := four_cells HN.out
    obtain ⟨c0, c1, c2, c3, c4, c5⟩ := six_cells HS4.out.2.2.1
    go_wp2_with fail
    (with_reducible refine (HBW.out _).mono ?_); rintro e w5 ⟨rfl, b5⟩
    have HS5 := lh (HS4.out.next b5)
    clear b5 HS4 HN k0 k1 k2 k3 c0 c1 c2 c3 c4 c5
    go_wp2_with fail
    have HSd := lh (HS5.out.next (below_drew1 w5))
    have hpd := HSd.out.1
    have c3 : w5.cell? ⟨cb, 3, none⟩ = some (.slice ao j cap) := (six_cells HS5.out.2.2.1).2.2.2.1
    have hcl5 : cb < w5.heap.size := row_ltP HS5.out.2.2.1
    go_region_law (first | (go_simp; go_at_call 268; (with_reducible refine (HW.out _ hpd).mono ?_); rintro e w6 ⟨rfl, hs6, g6⟩; have HS6 := lh (HSd.out.far hs6 g6); have hc6 := (six_cells HS6.out.2.2.1).2.2.2.1; have ra := cell_alloc hc6 (.cells #[.int .i64 1, .string (T t.text), .string (T t.quoted), .slice none 0 0, .slice none 0 0] 36); clear hs6 g6) | (refine step_append_any (by rfl) _ _ _ (by rfl) (cb + 1) 36 i0 (.agg #[.int .i64 0, .string ByteArray.empty, .string ByteArray.empty, .slice none 0 0, .slice none 0 0]) 5 88 Tryz.underlying28 hi hz0 hz1 hz2 rfl (by decide) (.slice ao j cap) j (wds (l.take j)) (by rfl) (HS6.out.2.2.2.1.alloc _) (some ⟨w6.heap.size, 0, none⟩) 1 1 (twc t) (by rfl) (by intro h; cases h) (by rfl) (by intro ad had; cases had; exact World.news_of_block (t := 36) (fr := (0, 0)) (heap_alloc_new w6 _)) (twc_one t) (by unfold maxLen; omega) (by omega) (by have := row_ltP HS6.out.2.2.1; simp; omega) ?_; intro v' w7 hown7 hgrow7 hloc7; obtain ⟨ao7, cap7, rfl, _⟩ := own_form hown7; have hrow7 := (hgrow7.block cb (by have := row_ltP HS6.out.2.2.1; simp; omega) (fun e => own_not HS6.out.2.2.2.1 (Nat.lt_succ_self _) e.symm)).trans ((Lib.alloc_old w6 _ cb (row_ltP HS6.out.2.2.1)).trans HS6.out.2.2.1); have d3 := (six_cells hrow7).2.2.2.1; have f3 := (six_frozen hrow7).2.2.2.1))
    all_goals
     have hnew := si_push HS6.out hown7 HTK.out hgrow7
     go_wp2_with fail
     obtain ⟨hjl, hk⟩ := HJ.out
     have hlt := HLT.out
     go_roundg (l.length - (j + 1))
     case measure => omega
     case rel => exact ⟨j + 1, _, hnew, hlt, rfl⟩
  ·have hjl : j = l.length := by have := HJ.out.1; omega
   subst hjl
   have hz := tk_out (l := l) (n := l.length) (Nat.le_refl _)
   rw [hz, show tzero.kind = 0 from rfl, show tzero.pos = 0 from rfl, show tzero.text = [] from rfl, show tzero.quoted = [] from rfl, show ((0 : Nat) : Int) = 0 from rfl]
   have HBW := lh (fun (W : World) => begw_no W)
   have HBR := lh (fun (W : World) => begr_no tzero W tz_soft)
   rw [tzval] at HBW HBR
   have HN := lh (heap_alloc_new w3 (.cells #[.int .i64 0, .int .i64 0, .string (T []), .string (T [])] 132))
   have HS4 := lh (HS3.out.next (alloc_below w3 (.cells #[.int .i64 0, .int .i64 0, .string (T []), .string (T [])] 132)))
   clear HS3 hz
   cases b
   all_goals
    go_upto_region 4 with fail
    generalize hw4 : w3.alloc _ = w4 at *
    generalize w3.heap.size = tb at *
    clear hw4
    obtain ⟨k0, k1, k2, k3⟩ := four_cells HN.out
    obtain ⟨c0, c1, c2, c3, c4, c5⟩ := six_cells HS4.out.2.2.1
    go_wp2_with fail
    (with_reducible refine (HBW.out _).mono ?_); rintro e w5 ⟨rfl, b5⟩
    have HS5 := lh (HS4.out.next b5)
    have HN5 := lh ((b5.block _ (row_ltP HN.out)).trans HN.out)
    clear b5 HS4 HN k0 k1 k2 k3 c0 c1 c2 c3 c4 c5
    obtain ⟨k0, k1, k2, k3⟩ := four_cells HN5.out
    go_wp2_with fail
    (with_reducible refine (HBR.out _).mono ?_); rintro e w6 ⟨rfl, b6⟩
    have HS6 := lh (HS5.out.next b6)
    clear b6 HS5 HN5 k0 k1 k2 k3
    obtain ⟨c0, c1, c2, c3, c4, c5⟩ := six_cells HS6.out.2.2.1
    obtain ⟨z0, z1, z2, z3, z4, z5⟩ := six_cells HS6.out.2.1
    obtain ⟨y0, y1, y2, y3, y4, y5⟩ := six_frozen HS6.out.2.1
    go_wp2_with fail
    have hq := six_stored (v0 := .int .i64 1) (v1 := .int .i64 (p : Int)) (v2 := .string (T [])) (v3 := .slice ao l.length cap) (v4 := .slice none 0 0) (v5 := .slice none 0 0) HS6.out.2.1
    obtain ⟨q0, q1, q2, q3, q4, q5⟩ := six_cells hq
    obtain ⟨a1, a2, a3, a4, a5, a6, a7⟩ := HS6.out
    have ho := owns_lower (a4.kept (six_grown w.heap.size (.int .i64 1) (.int .i64 (p : Int)) (.string (T [])) (.slice ao l.length cap) (.slice none 0 0) (.slice none 0 0)) (Or.inr (own_neP a4 a2 (by decide)))) (show w.heap.size ≤ cb + 1 by omega)
    rw [List.take_length] at ho
    exact bodyPost_ret (v := .agg #[.int .i64 1, .int .i64 (p : Int), .string (T []), .slice ao l.length cap, .slice none 0 0, .slice none 0 0]) (by simp [results, Tryz.results260, go_sem, q0, q1, q2, q3, q4, q5]) rfl ⟨_, _, rfl, ho, a1.other a2 (by decide) (by omega) (six_grown _ _ _ _ _ _ _), grown_new a5 (six_grown _ _ _ _ _ _ _) (Nat.le_refl _)⟩
end Go.Proofs.YtfibaopngpfmjaaGreatDoor
