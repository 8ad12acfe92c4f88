/- The parser's commands, pipes and lists. Conditions: those that each theorem names. -/
import Derived.Test.YtfibaopngpfmjaaGreatDoorRzA7
import Derived.OwnWalk
set_option linter.unusedVariables false
set_option linter.unusedSimpArgs false
set_option maxRecDepth 100000
set_option maxHeartbeats 8000000
namespace Go.Proofs.YtfibaopngpfmjaaGreatDoor
open Go.RowKit Go.Proofs
/-- What is returned: a simple command with the words of l. -/
def CmdSays (w : World) (g : Nat) (l : List Tok) (e : Ending) (w' : World) : Prop :=
 ∃ (p : Int) (ao : Option Addr) (cap : Nat), e = .returned (.agg #[.int .i64 1, .int .i64 p, .string (T []), .slice ao l.length cap, .slice none 0 0, .slice none 0 0]) ∧ w'.ownsRow w.heap.size 36 5 (.slice ao l.length cap) l.length (wds l) ∧ PrS w' g l l.length ∧ w.grownBy w' (some g)
/-- The state behind the inner call. -/
def CSt (w W : World) (g : Nat) (l : List Tok) (v : Value) : Prop :=
 PrS W g l l.length ∧ W.heap[w.heap.size]? = some (.cells #[.int .i64 0, .int .i64 0, .string (T []), .slice none 0 0, .slice none 0 0, .slice none 0 0] 31 (0, 0)) ∧ W.ownsRow w.heap.size 36 5 v l.length (wds l) ∧ w.grownBy W (some g) ∧ g < w.heap.size
theorem CSt.next {w W W' : World} {g : Nat} {l : List Tok} {v : Value} (h : CSt w W g l v) (hb : Below W.heap.size W W') : CSt w W' g l v := by
 obtain ⟨h1, h2, h3, h4, h5⟩ := h
 exact ⟨h1.next hb, (hb.block _ (row_ltP h2)).trans h2, own_next h3 hb, h4.trans (below_grownBy hb (some g)), h5⟩
/-- Behind the inner call, from its start w0 on: a world in which the result's place is laid. -/
theorem CSt.of {w w0 w1 : World} {g : Nat} {l : List Tok} {v : Value} (hg0 : w.grownBy w0 (some g)) (hz : w0.heap[w.heap.size]? = some (.cells #[.int .i64 0, .int .i64 0, .string (T []), .slice none 0 0, .slice none 0 0, .slice none 0 0] 31 (0, 0))) (hgl : g < w.heap.size)
  (ho : w1.ownsRow w0.heap.size 36 5 v l.length (wds l)) (hs : PrS w1 g l l.length) (hg : w0.grownBy w1 (some g)) : CSt w w1 g l v :=
 ⟨hs, (hg.block _ (row_ltP hz) (fun e => by cases e; omega)).trans hz, owns_lower ho hg0.size, hg0.trans hg, hgl⟩
theorem CSt.fin {w W : World} {g : Nat} {l : List Tok} {ao : Option Addr} {n cap : Nat} (h : CSt w W g l (.slice ao l.length cap)) (p : Int) :
  CmdSays w g l (.returned (.agg #[.int .i64 1, .int .i64 p, .string (T []), .slice ao l.length cap, .slice none 0 0, .slice none 0 0]))
   ((((((W.setCell ⟨w.heap.size, 0, none⟩ (.int .i64 1)).setCell ⟨w.heap.size, 1, none⟩ (.int .i64 p)).setCell ⟨w.heap.size, 2, none⟩ (.string (T []))).setCell ⟨w.heap.size, 3, none⟩ (.slice ao l.length cap)).setCell ⟨w.heap.size, 4, none⟩ (.slice none 0 0)).setCell ⟨w.heap.size, 5, none⟩ (.slice none 0 0)) := by
 obtain ⟨h1, h2, h3, h4, h5⟩ := h
 exact ⟨p, ao, cap, rfl, h3.kept (six_grown _ _ _ _ _ _ _) (Or.inr (own_neP h3 h2 (by decide))), h1.other h2 (by decide) (by omega) (six_grown _ _ _ _ _ _ _), grown_new h4 (six_grown _ _ _ _ _ _ _) (Nat.le_refl _)⟩
theorem simple_says (g : Nat) (l : List Tok) (w : World) (h : PrS w g l 0) (hl : l.length ≤ 900) (hl0 : 0 < l.length) (hw : Wds l) :
  Calls Tryz.prog 260 #[.pointer (some ⟨g, 0, none⟩)] w fun e w' => CmdSays w g l e w' := by
 refine (simple_any g l w h hl hl0 hw).mono ?_
 rintro e w' ⟨p, wv, rfl, h1, h2, h3⟩
 obtain ⟨ao, cap, rfl, _⟩ := own_form h1
 exact ⟨p, ao, cap, rfl, h1, h2, h3⟩
/-- The state of command: the two tokens in places of their own. -/
def KSt (w W : World) (g tb : Nat) (l : List Tok) (q : Nat) (u : Tok) : Prop :=
 PrS W g l 0 ∧ W.heap[w.heap.size]? = some (.cells #[.int .i64 0, .int .i64 0, .string (T []), .slice none 0 0, .slice none 0 0, .slice none 0 0] 31 (0, 0)) ∧ Below w.heap.size w W ∧
 W.heap[tb]? = some (.cells #[.int .i64 1, .int .i64 (q : Int), .string (T [101, 99, 104, 111]), .string (T [48, 48, 48, 48])] 132 (0, 0)) ∧
 W.heap[tb + 1]? = some (.cells #[.int .i64 u.kind, .int .i64 (u.pos : Int), .string (T u.text), .string (T u.quoted)] 132 (0, 0))
theorem KSt.next {w W W' : World} {g tb : Nat} {l : List Tok} {q : Nat} {u : Tok} (h : KSt w W g tb l q u) (hb : Below W.heap.size W W') : KSt w W' g tb l q u := by
 obtain ⟨h1, h2, h3, h4, h5⟩ := h
 exact ⟨h1.next hb, (hb.block _ (row_ltP h2)).trans h2, bnext h3 hb, (hb.block _ (row_ltP h4)).trans h4, (hb.block _ (row_ltP h5)).trans h5⟩
theorem KSt.reads {w W : World} {g tb : Nat} {l : List Tok} {q : Nat} {u : Tok} (h : KSt w W g tb l q u) :
  (W.cell? ⟨tb, 0, none⟩ = some (.int .i64 1) ∧ W.cell? ⟨tb, 1, none⟩ = some (.int .i64 (q : Int)) ∧ W.cell? ⟨tb, 2, none⟩ = some (.string (T [101, 99, 104, 111])) ∧ W.cell? ⟨tb, 3, none⟩ = some (.string (T [48, 48, 48, 48]))) ∧
  (W.cell? ⟨tb + 1, 0, none⟩ = some (.int .i64 u.kind) ∧ W.cell? ⟨tb + 1, 1, none⟩ = some (.int .i64 (u.pos : Int)) ∧ W.cell? ⟨tb + 1, 2, none⟩ = some (.string (T u.text)) ∧ W.cell? ⟨tb + 1, 3, none⟩ = some (.string (T u.quoted))) :=
 ⟨four_cells h.2.2.2.1, four_cells h.2.2.2.2⟩
theorem command_any (g q : Nat) (m : Int) (l : List Tok) (w : World) (h : PrS w g l 0) (hl : l.length ≤ 900) (hl0 : 0 < l.length) (hw : Wds l) (he : tkAt l 0 = echoTok q) (hm : w.cell? ⟨0, 0, none⟩ = some (.int .i64 m)) :
  Calls Tryz.prog 234 #[.pointer (some ⟨g, 0, none⟩), .bool false] w fun e w' => CmdSays w g l e w' := by
 have hgl := h.lt
 have hm0 : 0 < w.heap.size := block_lt_of_cell hm
 have HB0 := lh (alloc_below w czero)
 have HZ0 := lh (heap_alloc_new w czero)
 have HS0 := lh (h.next HB0.out)
 have HT0 := lh (fun (W : World) (h : PrS W g l 0) => ptok0 g 0 l W h (by omega) (by omega))
 have HT1 := lh (fun (W : World) (h : PrS W g l 0) => ptok1 g 0 l W h (by omega) (by omega))
 have HSI := lh (fun (W : World) (h : PrS W g l 0) => simple_says g l W h hl hl0 hw)
 have HBG := lh (fun (W : World) (h : PrS W g l 0) => begins_yes g 0 l W h (by omega) hl0 hw)
 have HIU := lh (fun (y : ByteArray) (W : World) => is_not (tkAt l 1) y W (hw.soft 1))
 have HIE := lh (fun (y : ByteArray) (W : World) => is_not (echoTok q) y W ⟨rfl, rfl, rfl⟩)
 have HPL := lh (fun (W : World) => plain_echo q W)
 have HNM := lh (fun (W : World) => isName_echo W)
 have HKW := lh (fun (W : World) hm => keyword_echo q m W hm)
 have HM := lh hm
 rw [he] at HT0
 rw [echo_val] at HT0 HIE HPL HKW
 rw [show 0 + 1 = 1 from rfl] at HT1
 clear h hl hl0 hw he hm
 unfold tkval at HT1 HIU
 generalize tkAt l 1 = u at *
 go_enter Tryz.func234, Tryz.ntmps234
 go_wp2_with fail
 generalize hw0 : World.alloc _ _ = w0 at *
 clear hw0
 (with_reducible refine (HT0.out _ HS0.out).mono ?_); rintro e w1 ⟨rfl, b1⟩
 have HS1 := lh (HS0.out.next b1)
 have HZ1 := lh ((b1.block _ (row_ltP HZ0.out)).trans HZ0.out)
 have HB1 := lh (bnext HB0.out b1)
 clear b1 HS0 HZ0 HB0 HT0
 go_wp2_with fail
 (with_reducible refine (HT1.out _ HS1.out).mono ?_); rintro e w2 ⟨rfl, b2⟩
 have HS2 := lh (HS1.out.next b2)
 have HZ2 := lh ((b2.block _ (row_ltP HZ1.out)).trans HZ1.out)
 have HB2 := lh (bnext HB1.out b2)
 clear b2 HS1 HZ1 HB1 HT1
 go_wp2_with fail
 have HK := lh (show KSt w ((w2.alloc (.cells #[.int .i64 1, .int .i64 (q : Int), .string (T [101, 99, 104, 111]), .string (T [48, 48, 48, 48])] 132)).alloc (.cells #[.int .i64 u.kind, .int .i64 (u.pos : Int), .string (T u.text), .string (T u.quoted)] 132)) g w2.heap.size l q u from by
  have hb := bnext (alloc_below w2 (.cells #[.int .i64 1, .int .i64 (q : Int), .string (T [101, 99, 104, 111]), .string (T [48, 48, 48, 48])] 132)) (alloc_below _ (.cells #[.int .i64 u.kind, .int .i64 (u.pos : Int), .string (T u.text), .string (T u.quoted)] 132))
  refine ⟨HS2.out.next hb, (hb.block _ (row_ltP HZ2.out)).trans HZ2.out, bnext HB2.out hb, ?_, ?_⟩
  ·exact (Lib.alloc_old _ _ _ (by simp)).trans (heap_alloc_new w2 _)
  ·have := heap_alloc_new (w2.alloc (.cells #[.int .i64 1, .int .i64 (q : Int), .string (T [101, 99, 104, 111]), .string (T [48, 48, 48, 48])] 132)) (.cells #[.int .i64 u.kind, .int .i64 (u.pos : Int), .string (T u.text), .string (T u.quoted)] 132)
   simpa using this)
 clear HS2 HZ2 HB2
 generalize hw3 : World.alloc _ _ = w3 at *
 generalize w2.heap.size = tb at *
 clear hw3
 (with_reducible refine (HPL.out _).mono ?_); rintro e w4 ⟨rfl, b4⟩
 have HK4 := lh (HK.out.next b4)
 clear b4 HK
 obtain ⟨⟨k0, k1, k2, k3⟩, j0, j1, j2, j3⟩ := HK4.out.reads
 go_wp2_with fail
 (with_reducible refine (HNM.out _).mono ?_); rintro e wx ⟨rfl, rfl⟩
 go_wp2_with fail
 clear k0 k1 k2 k3 j0 j1 j2 j3
 (with_reducible refine (HIU.out _ _).mono ?_); rintro e w6 ⟨rfl, b6⟩
 have HK6 := lh (HK4.out.next b6)
 clear b6 HK4
 obtain ⟨⟨k0, k1, k2, k3⟩, j0, j1, j2, j3⟩ := HK6.out.reads
 go_wp2_with fail
 clear k0 k1 k2 k3 j0 j1 j2 j3
 (with_reducible refine (HIE.out _ _).mono ?_); rintro e w7 ⟨rfl, b7⟩
 have HK7 := lh (HK6.out.next b7)
 clear b7 HK6
 obtain ⟨⟨k0, k1, k2, k3⟩, j0, j1, j2, j3⟩ := HK7.out.reads
 go_wp2_with fail
 clear k0 k1 k2 k3 j0 j1 j2 j3
 (with_reducible refine (HIE.out _ _).mono ?_); rintro e w8 ⟨rfl, b8⟩
 have HK8 := lh (HK7.out.next b8)
 clear b8 HK7
 obtain ⟨⟨k0, k1, k2, k3⟩, j0, j1, j2, j3⟩ := HK8.out.reads
 go_wp2_with fail
 clear k0 k1 k2 k3 j0 j1 j2 j3
 (with_reducible refine (HIE.out _ _).mono ?_); rintro e w9 ⟨rfl, b9⟩
 have HK9 := lh (HK8.out.next b9)
 clear b9 HK8
 obtain ⟨⟨k0, k1, k2, k3⟩, j0, j1, j2, j3⟩ := HK9.out.reads
 go_wp2_with fail
 have hmk := (HK9.out.2.2.1.cell (p := ⟨0, 0, none⟩) hm0).trans HM.out
 clear k0 k1 k2 k3 j0 j1 j2 j3
 (with_reducible refine (HKW.out _ hmk).mono ?_); rintro e w10 ⟨rfl, b10⟩
 have HK10 := lh (HK9.out.next b10)
 clear b10 HK9
 obtain ⟨⟨k0, k1, k2, k3⟩, j0, j1, j2, j3⟩ := HK10.out.reads
 go_wp2_with fail
 have hpb := HK10.out.1
 clear k0 k1 k2 k3 j0 j1 j2 j3
 (with_reducible refine (HBG.out _ hpb).mono ?_); rintro e w11 ⟨rfl, b11⟩
 have HK11 := lh (HK10.out.next b11)
 clear b11 HK10
 obtain ⟨⟨k0, k1, k2, k3⟩, j0, j1, j2, j3⟩ := HK11.out.reads
 go_wp2_with fail
 clear hpb hmk k0 k1 k2 k3 j0 j1 j2 j3
 have hpb := HK11.out.1
 (with_reducible refine (HSI.out _ hpb).mono ?_); rintro e wy ⟨p, ao, cap, rfl, ho, hs, hg⟩
 have HC := lh (CSt.of (below_grownBy HK11.out.2.2.1 (some g)) HK11.out.2.1 hgl ho hs hg)
 clear ho hs hg HK11 hpb
 obtain ⟨z0, z1, z2, z3, z4, z5⟩ := six_cells HC.out.2.1
 obtain ⟨y0, y1, y2, y3, y4, y5⟩ := six_frozen HC.out.2.1
 go_wp2_with fail
 have hq := six_stored (v0 := .int .i64 1) (v1 := .int .i64 p) (v2 := .string (T [])) (v3 := .slice ao l.length cap) (v4 := .slice none 0 0) (v5 := .slice none 0 0) HC.out.2.1
 obtain ⟨q0, q1, q2, q3, q4, q5⟩ := six_cells hq
 exact bodyPost_ret (v := .agg #[.int .i64 1, .int .i64 p, .string (T []), .slice ao l.length cap, .slice none 0 0, .slice none 0 0]) (by simp [results, Tryz.results234, go_sem, q0, q1, q2, q3, q4, q5]) rfl (HC.out.fin (n := 0) p)
theorem pipe_any (g q : Nat) (m : Int) (l : List Tok) (w : World) (h : PrS w g l 0) (hl : l.length ≤ 900) (hl0 : 0 < l.length) (hw : Wds l) (he : tkAt l 0 = echoTok q) (hm : w.cell? ⟨0, 0, none⟩ = some (.int .i64 m)) :
  Calls Tryz.prog 201 #[.pointer (some ⟨g, 0, none⟩), .bool false] w fun e w' => CmdSays w g l e w' := by
 have hgl := h.lt
 have hm0 : 0 < w.heap.size := block_lt_of_cell hm
 have HB0 := lh (alloc_below w czero)
 have HZ0 := lh (heap_alloc_new w czero)
 have HS0 := lh (h.next HB0.out)
 have HIN := lh (fun (W : World) (h : PrS W g l 0) hm => command_any g q m l W h hl hl0 hw he hm)
 have HAC := lh (fun (y : ByteArray) (W : World) (h : PrS W g l l.length) => accept_not g l.length l y W h (by omega) (by omega) hw)
 have hm1 := (HB0.out.cell (p := ⟨0, 0, none⟩) hm0).trans hm
 clear h hl hl0 hw he hm
 go_enter Tryz.func201, Tryz.ntmps201
 go_wp2_with fail
 generalize hw0 : World.alloc _ _ = w0 at *
 clear hw0
 have hs0 := HS0.out
 (with_reducible refine (HIN.out _ hs0 hm1).mono ?_); rintro e w1 ⟨p, ao, cap, rfl, ho, hs, hg⟩
 have HC1 := lh (CSt.of (below_grownBy HB0.out (some g)) HZ0.out hgl ho hs hg)
 clear ho hs hg HS0 HZ0 HB0 HIN hs0 hm1
 go_wp2_with fail
 have HN2 := lh (heap_alloc_new w1 (.cells #[.int .i64 1, .int .i64 p, .string (T []), .slice ao l.length cap, .slice none 0 0, .slice none 0 0] 31))
 have HC2 := lh (HC1.out.next (alloc_below w1 (.cells #[.int .i64 1, .int .i64 p, .string (T []), .slice ao l.length cap, .slice none 0 0, .slice none 0 0] 31)))
 clear HC1
 generalize hw2 : w1.alloc _ = w2 at *
 generalize w1.heap.size = tb at *
 clear hw2
 refine wp_loop_rounds 1 ?_
 rw [rounds_succ]
 go_wp2_with fail
 have hp2 := HC2.out.1
 (with_reducible refine (HAC.out _ _ hp2).mono ?_); rintro e w3 ⟨rfl, b3⟩
 have HC3 := lh (HC2.out.next b3)
 have HN3 := lh ((b3.block _ (row_ltP HN2.out)).trans HN2.out)
 clear b3 HC2 HN2 hp2
 obtain ⟨c0, c1, c2, c3, c4, c5⟩ := six_cells HN3.out
 obtain ⟨z0, z1, z2, z3, z4, z5⟩ := six_cells HC3.out.2.1
 obtain ⟨y0, y1, y2, y3, y4, y5⟩ := six_frozen HC3.out.2.1
 go_wp2_with fail
 have hq := six_stored (v0 := .int .i64 1) (v1 := .int .i64 p) (v2 := .string (T [])) (v3 := .slice ao l.length cap) (v4 := .slice none 0 0) (v5 := .slice none 0 0) HC3.out.2.1
 obtain ⟨q0, q1, q2, q3, q4, q5⟩ := six_cells hq
 exact bodyPost_ret (v := .agg #[.int .i64 1, .int .i64 p, .string (T []), .slice ao l.length cap, .slice none 0 0, .slice none 0 0]) (by simp [results, Tryz.results201, go_sem, q0, q1, q2, q3, q4, q5]) rfl (HC3.out.fin (n := 0) p)
theorem chain_any (g q : Nat) (m : Int) (l : List Tok) (w : World) (h : PrS w g l 0) (hl : l.length ≤ 900) (hl0 : 0 < l.length) (hw : Wds l) (he : tkAt l 0 = echoTok q) (hm : w.cell? ⟨0, 0, none⟩ = some (.int .i64 m)) :
  Calls Tryz.prog 159 #[.pointer (some ⟨g, 0, none⟩), .bool false] w fun e w' => CmdSays w g l e w' := by
 have hgl := h.lt
 have hm0 : 0 < w.heap.size := block_lt_of_cell hm
 have HB0 := lh (alloc_below w czero)
 have HZ0 := lh (heap_alloc_new w czero)
 have HS0 := lh (h.next HB0.out)
 have HIN := lh (fun (W : World) (h : PrS W g l 0) hm => pipe_any g q m l W h hl hl0 hw he hm)
 have HAC := lh (fun (y : ByteArray) (W : World) (h : PrS W g l l.length) => accept_not g l.length l y W h (by omega) (by omega) hw)
 have hm1 := (HB0.out.cell (p := ⟨0, 0, none⟩) hm0).trans hm
 clear h hl hl0 hw he hm
 go_enter Tryz.func159, Tryz.ntmps159
 go_wp2_with fail
 generalize hw0 : World.alloc _ _ = w0 at *
 clear hw0
 have hs0 := HS0.out
 (with_reducible refine (HIN.out _ hs0 hm1).mono ?_); rintro e w1 ⟨p, ao, cap, rfl, ho, hs, hg⟩
 have HC1 := lh (CSt.of (below_grownBy HB0.out (some g)) HZ0.out hgl ho hs hg)
 clear ho hs hg HS0 HZ0 HB0 HIN hs0 hm1
 go_wp2_with fail
 have HN2 := lh (heap_alloc_new w1 (.cells #[.int .i64 1, .int .i64 p, .string (T []), .slice ao l.length cap, .slice none 0 0, .slice none 0 0] 31))
 have HC2 := lh (HC1.out.next (alloc_below w1 (.cells #[.int .i64 1, .int .i64 p, .string (T []), .slice ao l.length cap, .slice none 0 0, .slice none 0 0] 31)))
 clear HC1
 generalize hw2 : w1.alloc _ = w2 at *
 generalize w1.heap.size = tb at *
 clear hw2
 refine wp_loop_rounds 1 ?_
 rw [rounds_succ]
 go_wp2_with fail
 have hp2 := HC2.out.1
 (with_reducible refine (HAC.out _ _ hp2).mono ?_); rintro e w3 ⟨rfl, b3⟩
 have HC3 := lh (HC2.out.next b3)
 have HN3 := lh ((b3.block _ (row_ltP HN2.out)).trans HN2.out)
 clear b3 HC2 HN2 hp2
 go_wp2_with fail
 have hp3 := HC3.out.1
 (with_reducible refine (HAC.out _ _ hp3).mono ?_); rintro e w4 ⟨rfl, b4⟩
 have HC4 := lh (HC3.out.next b4)
 have HN4 := lh ((b4.block _ (row_ltP HN3.out)).trans HN3.out)
 clear b4 HC3 HN3 hp3
 obtain ⟨c0, c1, c2, c3, c4, c5⟩ := six_cells HN4.out
 obtain ⟨z0, z1, z2, z3, z4, z5⟩ := six_cells HC4.out.2.1
 obtain ⟨y0, y1, y2, y3, y4, y5⟩ := six_frozen HC4.out.2.1
 go_wp2_with fail
 have hq := six_stored (v0 := .int .i64 1) (v1 := .int .i64 p) (v2 := .string (T [])) (v3 := .slice ao l.length cap) (v4 := .slice none 0 0) (v5 := .slice none 0 0) HC4.out.2.1
 obtain ⟨q0, q1, q2, q3, q4, q5⟩ := six_cells hq
 exact bodyPost_ret (v := .agg #[.int .i64 1, .int .i64 p, .string (T []), .slice ao l.length cap, .slice none 0 0, .slice none 0 0]) (by simp [results, Tryz.results159, go_sem, q0, q1, q2, q3, q4, q5]) rfl (HC4.out.fin (n := 0) p)
theorem item_any (g q : Nat) (m : Int) (l : List Tok) (w : World) (h : PrS w g l 0) (hl : l.length ≤ 900) (hl0 : 0 < l.length) (hw : Wds l) (he : tkAt l 0 = echoTok q) (hm : w.cell? ⟨0, 0, none⟩ = some (.int .i64 m)) :
  Calls Tryz.prog 95 #[.pointer (some ⟨g, 0, none⟩), .bool false] w fun e w' => CmdSays w g l e w' := by
 have hgl := h.lt
 have hm0 : 0 < w.heap.size := block_lt_of_cell hm
 have HB0 := lh (alloc_below w czero)
 have HZ0 := lh (heap_alloc_new w czero)
 have HS0 := lh (h.next HB0.out)
 have HIN := lh (fun (W : World) (h : PrS W g l 0) hm => chain_any g q m l W h hl hl0 hw he hm)
 have HAC := lh (fun (y : ByteArray) (W : World) (h : PrS W g l l.length) => accept_not g l.length l y W h (by omega) (by omega) hw)
 have hm1 := (HB0.out.cell (p := ⟨0, 0, none⟩) hm0).trans hm
 clear h hl hl0 hw he hm
 go_enter Tryz.func95, Tryz.ntmps95
 go_wp2_with fail
 generalize hw0 : World.alloc _ _ = w0 at *
 clear hw0
 have hs0 := HS0.out
 (with_reducible refine (HIN.out _ hs0 hm1).mono ?_); rintro e w1 ⟨p, ao, cap, rfl, ho, hs, hg⟩
 have HC1 := lh (CSt.of (below_grownBy HB0.out (some g)) HZ0.out hgl ho hs hg)
 clear ho hs hg HS0 HZ0 HB0 HIN hs0 hm1
 go_wp2_with fail
 have HN2 := lh (heap_alloc_new w1 (.cells #[.int .i64 1, .int .i64 p, .string (T []), .slice ao l.length cap, .slice none 0 0, .slice none 0 0] 31))
 have HC2 := lh (HC1.out.next (alloc_below w1 (.cells #[.int .i64 1, .int .i64 p, .string (T []), .slice ao l.length cap, .slice none 0 0, .slice none 0 0] 31)))
 clear HC1
 generalize hw2 : w1.alloc _ = w2 at *
 generalize w1.heap.size = tb at *
 clear hw2
 have hp2 := HC2.out.1
 (with_reducible refine (HAC.out _ _ hp2).mono ?_); rintro e w3 ⟨rfl, b3⟩
 have HC3 := lh (HC2.out.next b3)
 have HN3 := lh ((b3.block _ (row_ltP HN2.out)).trans HN2.out)
 clear b3 HC2 HN2 hp2
 obtain ⟨c0, c1, c2, c3, c4, c5⟩ := six_cells HN3.out
 obtain ⟨z0, z1, z2, z3, z4, z5⟩ := six_cells HC3.out.2.1
 obtain ⟨y0, y1, y2, y3, y4, y5⟩ := six_frozen HC3.out.2.1
 go_wp2_with fail
 have hq := six_stored (v0 := .int .i64 1) (v1 := .int .i64 p) (v2 := .string (T [])) (v3 := .slice ao l.length cap) (v4 := .slice none 0 0) (v5 := .slice none 0 0) HC3.out.2.1
 obtain ⟨q0, q1, q2, q3, q4, q5⟩ := six_cells hq
 exact bodyPost_ret (v := .agg #[.int .i64 1, .int .i64 p, .string (T []), .slice ao l.length cap, .slice none 0 0, .slice none 0 0]) (by simp [results, Tryz.results95, go_sem, q0, q1, q2, q3, q4, q5]) rfl (HC3.out.fin (n := 0) p)
/-- One simple command with the words of l, in rows of the call's own. -/
def LstSays (w : World) (g : Nat) (l : List Tok) (e : Ending) (w' : World) : Prop :=
 ∃ (p : Int) (ao : Option Addr) (cap : Nat) (cv : Value), e = .returned cv ∧ w'.ownsRow w.heap.size 31 6 cv 1 [.int .i64 1, .int .i64 p, .string (T []), .slice ao l.length cap, .slice none 0 0, .slice none 0 0] ∧ w'.ownsRow w.heap.size 36 5 (.slice ao l.length cap) l.length (wds l) ∧ PrS w' g l l.length ∧ w.grownBy w' (some g)
theorem below_of_none {w w' : World} (h : w.grownBy w' none) : Below w.heap.size w w' := ⟨h.os, h.tape, h.output, h.size, fun i hi => h.block i hi (fun e => by cases e)⟩
theorem list_any (g q : Nat) (m : Int) (l : List Tok) (w : World) (h : PrS w g l 0) (hl : l.length ≤ 900) (hl0 : 0 < l.length) (hw : Wds l) (he : tkAt l 0 = echoTok q) (hm : w.cell? ⟨0, 0, none⟩ = some (.int .i64 m)) :
  Calls Tryz.prog 45 #[.pointer (some ⟨g, 0, none⟩), .bool false] w fun e w' => LstSays w g l e w' := by
 obtain ⟨i0, hi, hz0, hz1, hz2⟩ := info_parts (P := Tryz.prog) (e := 31) (z := .agg #[.int .i64 0, .int .i64 0, .string ByteArray.empty, .slice none 0 0, .slice none 0 0, .slice none 0 0]) (size := 6) (bytes := 104) (by kernel_rfl)
 have hgl := h.lt
 have hm0 : 0 < w.heap.size := block_lt_of_cell hm
 have HS0 := lh h
 have HEN := lh (fun (j : Nat) (W : World) (h : PrS W g l j) (hj : j ≤ 1000) => ends_not g j l W h (by omega) hj hw)
 have HBG := lh (fun (W : World) (h : PrS W g l 0) => begins_yes g 0 l W h (by omega) hl0 hw)
 have HIT := lh (fun (W : World) (h : PrS W g l 0) hm => item_any g q m l W h hl hl0 hw he hm)
 have HM := lh hm
 have HLL := lh hl
 clear h hl hl0 hw he hm
 go_enter Tryz.func45, Tryz.ntmps45
 go_wp2_with fail
 have hp0 := HS0.out
 (with_reducible refine (HEN.out 0 _ hp0 (by omega)).mono ?_); rintro e w1 ⟨rfl, b1⟩
 have HS1 := lh (HS0.out.next b1)
 have HB1 := lh b1
 clear b1 HS0 hp0
 go_wp2_with fail
 refine wp_loop_rounds 1 ?_
 rw [rounds_succ]
 go_wp2_with fail
 have hp1 := HS1.out
 (with_reducible refine (HBG.out _ hp1).mono ?_); rintro e w2 ⟨rfl, b2⟩
 have HS2 := lh (HS1.out.next b2)
 have HB2 := lh (bnext HB1.out b2)
 have hm2 := (HB2.out.cell (p := ⟨0, 0, none⟩) hm0).trans HM.out
 clear b2 HS1 HB1 hp1
 go_wp2_with fail
 have hp2 := HS2.out
 (with_reducible refine (HIT.out _ hp2 hm2).mono ?_); rintro e w3 ⟨p, ao, cap, rfl, ho, hs, hg⟩
 have HO3 := lh (owns_lower ho HB2.out.size)
 have HS3 := lh hs
 have HG3 := lh ((below_grownBy HB2.out (some g)).trans hg)
 clear ho hs hg HS2 HB2 hp2 hm2 HIT HBG
 go_upto_region 5 with fail
 have HN4 := lh (heap_alloc_new w3 (.cells #[.int .i64 1, .int .i64 p, .string (T []), .slice ao l.length cap, .slice none 0 0, .slice none 0 0] 31))
 have HB4 := lh (alloc_below w3 (.cells #[.int .i64 1, .int .i64 p, .string (T []), .slice ao l.length cap, .slice none 0 0, .slice none 0 0] 31))
 have hsz3 := HG3.out.size
 generalize hw4 : w3.alloc _ = w4 at *
 clear hw4
 have HO4 := lh (own_next HO3.out HB4.out)
 have HS4 := lh (HS3.out.next HB4.out)
 have HG4 := lh (HG3.out.trans (below_grownBy HB4.out (some g)))
 clear HO3 HS3 HB4
 generalize w3.heap.size = tb at *
 have hlt4 : tb < w4.heap.size := row_ltP HN4.out
 obtain ⟨c0, c1, c2, c3, c4, c5⟩ := six_cells HN4.out
 go_wp2_with (at_builtin; refine wpList_append_any _ rfl _ _ 23 rfl w.heap.size 31 i0 (.agg #[.int .i64 0, .int .i64 0, .string ByteArray.empty, .slice none 0 0, .slice none 0 0, .slice none 0 0]) 6 104 Tryz.underlying23 hi hz0 hz1 hz2 rfl (by decide) (.slice none 0 0) 0 [] rfl ?c0 (some ⟨w4.heap.size, 0, none⟩) 1 1 [.int .i64 1, .int .i64 p, .string (T []), .slice ao l.length cap, .slice none 0 0, .slice none 0 0] rfl ?c1 rfl ?c2 ?c3 ?c4 ?c5 ?c6 ?_)
 case c0 => exact ⟨rfl, .inl ⟨rfl, rfl⟩⟩
 case c1 => intro h; cases h
 case c2 =>
  intro ad had
  cases had
  exact World.news_of_block (t := 31) (fr := (0, 0)) (heap_alloc_new w4 _)
 case c3 =>
  intro u hu
  simp only [List.mem_cons, List.not_mem_nil, or_false] at hu
  rcases hu with rfl | rfl | rfl | rfl | rfl | rfl <;> rfl
 case c4 => unfold maxLen; omega
 case c5 => omega
 case c6 => have := HG4.out.size; simp; omega
 intro v' w5 hown5 hgrow5 _
 obtain ⟨co, ccap, rfl, _⟩ := own_form hown5
 have HB5 := lh (bnext (alloc_below w4 (.cells #[.int .i64 1, .int .i64 p, .string (T []), .slice ao l.length cap, .slice none 0 0, .slice none 0 0] 31)) (below_of_none hgrow5))
 have HO5 := lh (own_next HO4.out HB5.out)
 have HS5 := lh (HS4.out.next HB5.out)
 have HN5 := lh ((HB5.out.block _ (row_ltP HN4.out)).trans HN4.out)
 have HG5 := lh (HG4.out.trans (below_grownBy HB5.out (some g)))
 have HC5 := lh hown5
 clear hown5 hgrow5 HO4 HS4 HN4 HG4 HB5 c0 c1 c2 c3 c4 c5
 go_wp2_with fail
 have hp5 := HS5.out
 have hll := HLL.out
 (with_reducible refine (HEN.out l.length _ hp5 (by omega)).mono ?_); rintro e w6 ⟨rfl, b6⟩
 have HO6 := lh (own_next HO5.out b6)
 have HS6 := lh (HS5.out.next b6)
 have HN6 := lh ((b6.block _ (row_ltP HN5.out)).trans HN5.out)
 have HG6 := lh (HG5.out.trans (below_grownBy b6 (some g)))
 have HC6 := lh (own_next HC5.out b6)
 clear b6 HO5 HS5 HN5 HG5 HC5 hp5
 obtain ⟨c0, c1, c2, c3, c4, c5⟩ := six_cells HN6.out
 go_wp2_with fail
 go_ret
 exact ⟨p, ao, cap, _, rfl, HC6.out, HO6.out, HS6.out, HG6.out⟩
theorem documents_any (B : Nat) (x : ByteArray) (tv : Value) (l : List Tok) (w : World) (hown : w.ownsRow B 132 4 tv l.length (toks l)) (hl : l.length ≤ 900) (hl0 : 0 < l.length) (hw : Wds l) :
  Calls Tryz.prog 44 #[.string x, tv] w fun e w' => ∃ ao n c, e = .returned (.slice ao n c) ∧ Below w.heap.size w w' := by
 obtain ⟨i0, hi, hz0, hz1, hz2⟩ := info_parts (P := Tryz.prog) (e := 9) (z := .string ByteArray.empty) (size := 1) (bytes := 16) (by kernel_rfl)
 obtain ⟨ao, cap, rfl, hc⟩ := own_form hown
 obtain ⟨k, rfl, hcell⟩ := hc (by omega)
 have hkl : k < w.heap.size := by
  have h0 : (toks l)[0]? = some (.int .i64 (tkAt l 0).kind) := by
   obtain ⟨t, ht⟩ : ∃ t, l[0]? = some t := ⟨l[0], List.getElem?_eq_getElem hl0⟩
   have h1 := toks_get l 0 t ht 0 (by omega)
   have h2 : tkAt l 0 = t := by unfold tkAt; rw [List.getD_eq_getElem?_getD, ht]; rfl
   rw [h2]; simpa [tokv] using h1
  exact block_lt_of_cell (hcell 0 _ h0)
 have HC : RowKit.Hid (∀ j, j < l.length → ∃ t, l[j]? = some t ∧ t.kind = 1 ∧ w.cell? ⟨k, j * 4, none⟩ = some (.int .i64 1) ∧ w.cell? ⟨k, j * 4 + 1, none⟩ = some (.int .i64 (t.pos : Int)) ∧ w.cell? ⟨k, j * 4 + 2, none⟩ = some (.string (T t.text)) ∧ w.cell? ⟨k, j * 4 + 3, none⟩ = some (.string (T t.quoted))) := by
  apply lh
  intro j hj
  obtain ⟨t, ht⟩ : ∃ t, l[j]? = some t := ⟨_, List.getElem?_eq_getElem hj⟩
  have hk := hw t (List.mem_of_getElem? ht)
  refine ⟨t, ht, hk, ?_, ?_, ?_, ?_⟩
  ·exact hcell _ _ (by have := toks_get l j t ht 0 (by omega); rw [← hk]; simpa [tokv] using this)
  ·exact hcell _ _ (by have := toks_get l j t ht 1 (by omega); simpa [tokv] using this)
  ·exact hcell _ _ (by have := toks_get l j t ht 2 (by omega); simpa [tokv] using this)
  ·exact hcell _ _ (by have := toks_get l j t ht 3 (by omega); simpa [tokv] using this)
 clear hown hc hcell hw
 generalize l.length = n at *
 go_enter Tryz.func44, Tryz.ntmps44
 go_wp2_with (at_make; refine wpList_make_full _ rfl _ _ 32 rfl w.heap.size 9 i0 (.string ByteArray.empty) 1 Tryz.underlying32 hi hz0 hz1 _ _ _ _ n rfl rfl rfl rfl ?b1 ?b2 ?b3 ?_)
 case b1 => first | (rw [hz2]; omega) | omega
 case b2 => unfold maxLen; omega
 try (case b3 => omega)
 intro w1 hown1 hg1
 have HB1 := lh (below_of_none hg1)
 clear hown1 hg1
 go_wp2
 go_loopw [17] (fun i wr => ∃ j : Nat, j ≤ n ∧ i = .int .i64 j ∧ Below w.heap.size w wr) (fun i _ => n - (intOf i).toNat)
 case atStart => exact ⟨0, Nat.zero_le _, rfl, HB1.out⟩
 case round =>
  obtain ⟨j, hj, rfl, hb⟩ := hrel
  by_cases hlt : j < n
  ·obtain ⟨t, ht, hk, c0, c1, c2, c3⟩ := HC.out j hlt
   have d0 : wr.cell? ⟨k, j * 4, none⟩ = some (.int .i64 1) := cell_below hb hkl c0
   have d1 : wr.cell? ⟨k, j * 4 + 1, none⟩ = some (.int .i64 (t.pos : Int)) := cell_below hb hkl c1
   have d2 : wr.cell? ⟨k, j * 4 + 2, none⟩ = some (.string (T t.text)) := cell_below hb hkl c2
   have d3 : wr.cell? ⟨k, j * 4 + 3, none⟩ = some (.string (T t.quoted)) := cell_below hb hkl c3
   have HB2 := lh (show Below w.heap.size w (wr.alloc (.cells #[.int .i64 1, .int .i64 (t.pos : Int), .string (T t.text), .string (T t.quoted)] 132)) from hb.alloc hb.size _)
   have hlt2 : (j : Int) < (n : Int) := by omega
   clear c0 c1 c2 c3 ht hb HB1
   go_wp2_with fail
   go_roundw
   case rel => exact ⟨j + 1, hlt, rfl, HB2.out⟩
   case measure =>
    simp only [intOf]
    omega
  ·have hge : (n : Int) ≤ (j : Int) := by omega
   go_wp2_with fail
   go_ret
   exact ⟨_, _, _, rfl, hb⟩
end Go.Proofs.YtfibaopngpfmjaaGreatDoor
