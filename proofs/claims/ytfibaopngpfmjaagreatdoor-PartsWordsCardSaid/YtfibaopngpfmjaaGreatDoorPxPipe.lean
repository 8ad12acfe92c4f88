/- What the parser's pipe, chain and item return at words: the simple command. Conditions: at most 900 tokens, all words, the first one echo; bytealg.MaxLen holds a number. -/
import Derived.Test.YtfibaopngpfmjaaGreatDoorPxCmd
set_option linter.unusedVariables false
set_option linter.unusedSimpArgs false
namespace Go.Proofs.YtfibaopngpfmjaaGreatDoor
open Go.RowKit Go.Proofs
set_option maxRecDepth 100000 in
set_option maxHeartbeats 8000000 in
theorem pipe_any (g q : Nat) (m : Int) (l : List Tok) (w : World) (h : PrS w g l 0) (hl : l.length ≤ 900) (hl0 : 0 < l.length) (hw : Wds l) (he : tkAt l 0 = echoTok q) (hm : w.cell? ⟨0, 0, none⟩ = some (.int .i64 m)) :
    Calls Tryz.prog 201 #[.pointer (some ⟨g, 0, none⟩), .bool false] w fun e w' => CmdSays w g l e w' := by
  have hgl := h.lt
  have hm0 : 0 < w.heap.size := block_lt_of_cell hm
  have HB0 := Lib.hid (alloc_below w czero)
  have HZ0 := Lib.hid (heap_alloc_new w czero)
  have HS0 := Lib.hid (h.next HB0.out)
  have HIN := Lib.hid (fun (W : World) (h : PrS W g l 0) hm => command_any g q m l W h hl hl0 hw he hm)
  have HAC := Lib.hid (fun (y : ByteArray) (W : World) (h : PrS W g l l.length) => accept_not g l.length l y W h (by omega) (by omega) hw)
  have hm1 := (HB0.out.cell (p := ⟨0, 0, none⟩) hm0).trans hm
  clear h hl hl0 hw he hm
  go_enter Tryz.func201, Tryz.ntmps201
  go_wp2_with fail
  generalize hw0 : World.alloc _ _ = w0 at *
  clear hw0
  have hs0 := HS0.out
  (with_reducible refine (HIN.out _ hs0 hm1).mono ?_); rintro e w1 ⟨p, ao, cap, rfl, ho, hs, hg⟩
  have HC1 := Lib.hid (CSt.of (below_grownBy HB0.out (some g)) HZ0.out hgl ho hs hg)
  clear ho hs hg HS0 HZ0 HB0 HIN hs0 hm1
  go_wp2_with fail
  have HN2 := Lib.hid (heap_alloc_new w1 (.cells #[.int .i64 1, .int .i64 p, .string (T []), .slice ao l.length cap, .slice none 0 0, .slice none 0 0] 31))
  have HC2 := Lib.hid (HC1.out.next (alloc_below w1 (.cells #[.int .i64 1, .int .i64 p, .string (T []), .slice ao l.length cap, .slice none 0 0, .slice none 0 0] 31)))
  clear HC1
  generalize hw2 : w1.alloc _ = w2 at *
  generalize w1.heap.size = tb at *
  clear hw2
  refine wp_loop_rounds 1 ?_
  rw [rounds_succ]
  go_wp2_with fail
  have hp2 := HC2.out.1
  (with_reducible refine (HAC.out _ _ hp2).mono ?_); rintro e w3 ⟨rfl, b3⟩
  have HC3 := Lib.hid (HC2.out.next b3)
  have HN3 := Lib.hid ((b3.block _ (row_ltP HN2.out)).trans HN2.out)
  clear b3 HC2 HN2 hp2
  obtain ⟨c0, c1, c2, c3, c4, c5⟩ := six_cells HN3.out
  obtain ⟨z0, z1, z2, z3, z4, z5⟩ := six_cells HC3.out.2.1
  obtain ⟨y0, y1, y2, y3, y4, y5⟩ := six_frozen HC3.out.2.1
  go_wp2_with fail
  have hq := six_stored (v0 := .int .i64 1) (v1 := .int .i64 p) (v2 := .string (T [])) (v3 := .slice ao l.length cap) (v4 := .slice none 0 0) (v5 := .slice none 0 0) HC3.out.2.1
  obtain ⟨q0, q1, q2, q3, q4, q5⟩ := six_cells hq
  exact bodyPost_ret (v := .agg #[.int .i64 1, .int .i64 p, .string (T []), .slice ao l.length cap, .slice none 0 0, .slice none 0 0]) (by simp [results, Tryz.results201, go_sem, q0, q1, q2, q3, q4, q5]) rfl (HC3.out.fin (n := 0) p)
set_option maxRecDepth 100000 in
set_option maxHeartbeats 8000000 in
theorem chain_any (g q : Nat) (m : Int) (l : List Tok) (w : World) (h : PrS w g l 0) (hl : l.length ≤ 900) (hl0 : 0 < l.length) (hw : Wds l) (he : tkAt l 0 = echoTok q) (hm : w.cell? ⟨0, 0, none⟩ = some (.int .i64 m)) :
    Calls Tryz.prog 159 #[.pointer (some ⟨g, 0, none⟩), .bool false] w fun e w' => CmdSays w g l e w' := by
  have hgl := h.lt
  have hm0 : 0 < w.heap.size := block_lt_of_cell hm
  have HB0 := Lib.hid (alloc_below w czero)
  have HZ0 := Lib.hid (heap_alloc_new w czero)
  have HS0 := Lib.hid (h.next HB0.out)
  have HIN := Lib.hid (fun (W : World) (h : PrS W g l 0) hm => pipe_any g q m l W h hl hl0 hw he hm)
  have HAC := Lib.hid (fun (y : ByteArray) (W : World) (h : PrS W g l l.length) => accept_not g l.length l y W h (by omega) (by omega) hw)
  have hm1 := (HB0.out.cell (p := ⟨0, 0, none⟩) hm0).trans hm
  clear h hl hl0 hw he hm
  go_enter Tryz.func159, Tryz.ntmps159
  go_wp2_with fail
  generalize hw0 : World.alloc _ _ = w0 at *
  clear hw0
  have hs0 := HS0.out
  (with_reducible refine (HIN.out _ hs0 hm1).mono ?_); rintro e w1 ⟨p, ao, cap, rfl, ho, hs, hg⟩
  have HC1 := Lib.hid (CSt.of (below_grownBy HB0.out (some g)) HZ0.out hgl ho hs hg)
  clear ho hs hg HS0 HZ0 HB0 HIN hs0 hm1
  go_wp2_with fail
  have HN2 := Lib.hid (heap_alloc_new w1 (.cells #[.int .i64 1, .int .i64 p, .string (T []), .slice ao l.length cap, .slice none 0 0, .slice none 0 0] 31))
  have HC2 := Lib.hid (HC1.out.next (alloc_below w1 (.cells #[.int .i64 1, .int .i64 p, .string (T []), .slice ao l.length cap, .slice none 0 0, .slice none 0 0] 31)))
  clear HC1
  generalize hw2 : w1.alloc _ = w2 at *
  generalize w1.heap.size = tb at *
  clear hw2
  refine wp_loop_rounds 1 ?_
  rw [rounds_succ]
  go_wp2_with fail
  have hp2 := HC2.out.1
  (with_reducible refine (HAC.out _ _ hp2).mono ?_); rintro e w3 ⟨rfl, b3⟩
  have HC3 := Lib.hid (HC2.out.next b3)
  have HN3 := Lib.hid ((b3.block _ (row_ltP HN2.out)).trans HN2.out)
  clear b3 HC2 HN2 hp2
  go_wp2_with fail
  have hp3 := HC3.out.1
  (with_reducible refine (HAC.out _ _ hp3).mono ?_); rintro e w4 ⟨rfl, b4⟩
  have HC4 := Lib.hid (HC3.out.next b4)
  have HN4 := Lib.hid ((b4.block _ (row_ltP HN3.out)).trans HN3.out)
  clear b4 HC3 HN3 hp3
  obtain ⟨c0, c1, c2, c3, c4, c5⟩ := six_cells HN4.out
  obtain ⟨z0, z1, z2, z3, z4, z5⟩ := six_cells HC4.out.2.1
  obtain ⟨y0, y1, y2, y3, y4, y5⟩ := six_frozen HC4.out.2.1
  go_wp2_with fail
  have hq := six_stored (v0 := .int .i64 1) (v1 := .int .i64 p) (v2 := .string (T [])) (v3 := .slice ao l.length cap) (v4 := .slice none 0 0) (v5 := .slice none 0 0) HC4.out.2.1
  obtain ⟨q0, q1, q2, q3, q4, q5⟩ := six_cells hq
  exact bodyPost_ret (v := .agg #[.int .i64 1, .int .i64 p, .string (T []), .slice ao l.length cap, .slice none 0 0, .slice none 0 0]) (by simp [results, Tryz.results159, go_sem, q0, q1, q2, q3, q4, q5]) rfl (HC4.out.fin (n := 0) p)
set_option maxRecDepth 100000 in
set_option maxHeartbeats 8000000 in
theorem item_any (g q : Nat) (m : Int) (l : List Tok) (w : World) (h : PrS w g l 0) (hl : l.length ≤ 900) (hl0 : 0 < l.length) (hw : Wds l) (he : tkAt l 0 = echoTok q) (hm : w.cell? ⟨0, 0, none⟩ = some (.int .i64 m)) :
    Calls Tryz.prog 95 #[.pointer (some ⟨g, 0, none⟩), .bool false] w fun e w' => CmdSays w g l e w' := by
  have hgl := h.lt
  have hm0 : 0 < w.heap.size := block_lt_of_cell hm
  have HB0 := Lib.hid (alloc_below w czero)
  have HZ0 := Lib.hid (heap_alloc_new w czero)
  have HS0 := Lib.hid (h.next HB0.out)
  have HIN := Lib.hid (fun (W : World) (h : PrS W g l 0) hm => chain_any g q m l W h hl hl0 hw he hm)
  have HAC := Lib.hid (fun (y : ByteArray) (W : World) (h : PrS W g l l.length) => accept_not g l.length l y W h (by omega) (by omega) hw)
  have hm1 := (HB0.out.cell (p := ⟨0, 0, none⟩) hm0).trans hm
  clear h hl hl0 hw he hm
  go_enter Tryz.func95, Tryz.ntmps95
  go_wp2_with fail
  generalize hw0 : World.alloc _ _ = w0 at *
  clear hw0
  have hs0 := HS0.out
  (with_reducible refine (HIN.out _ hs0 hm1).mono ?_); rintro e w1 ⟨p, ao, cap, rfl, ho, hs, hg⟩
  have HC1 := Lib.hid (CSt.of (below_grownBy HB0.out (some g)) HZ0.out hgl ho hs hg)
  clear ho hs hg HS0 HZ0 HB0 HIN hs0 hm1
  go_wp2_with fail
  have HN2 := Lib.hid (heap_alloc_new w1 (.cells #[.int .i64 1, .int .i64 p, .string (T []), .slice ao l.length cap, .slice none 0 0, .slice none 0 0] 31))
  have HC2 := Lib.hid (HC1.out.next (alloc_below w1 (.cells #[.int .i64 1, .int .i64 p, .string (T []), .slice ao l.length cap, .slice none 0 0, .slice none 0 0] 31)))
  clear HC1
  generalize hw2 : w1.alloc _ = w2 at *
  generalize w1.heap.size = tb at *
  clear hw2
  have hp2 := HC2.out.1
  (with_reducible refine (HAC.out _ _ hp2).mono ?_); rintro e w3 ⟨rfl, b3⟩
  have HC3 := Lib.hid (HC2.out.next b3)
  have HN3 := Lib.hid ((b3.block _ (row_ltP HN2.out)).trans HN2.out)
  clear b3 HC2 HN2 hp2
  obtain ⟨c0, c1, c2, c3, c4, c5⟩ := six_cells HN3.out
  obtain ⟨z0, z1, z2, z3, z4, z5⟩ := six_cells HC3.out.2.1
  obtain ⟨y0, y1, y2, y3, y4, y5⟩ := six_frozen HC3.out.2.1
  go_wp2_with fail
  have hq := six_stored (v0 := .int .i64 1) (v1 := .int .i64 p) (v2 := .string (T [])) (v3 := .slice ao l.length cap) (v4 := .slice none 0 0) (v5 := .slice none 0 0) HC3.out.2.1
  obtain ⟨q0, q1, q2, q3, q4, q5⟩ := six_cells hq
  exact bodyPost_ret (v := .agg #[.int .i64 1, .int .i64 p, .string (T []), .slice ao l.length cap, .slice none 0 0, .slice none 0 0]) (by simp [results, Tryz.results95, go_sem, q0, q1, q2, q3, q4, q5]) rfl (HC3.out.fin (n := 0) p)
end Go.Proofs.YtfibaopngpfmjaaGreatDoor
