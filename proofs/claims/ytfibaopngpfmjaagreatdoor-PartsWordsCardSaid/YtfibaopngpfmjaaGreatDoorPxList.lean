/- What the parser's list returns at words: one simple command. Conditions: at most 900 tokens, all words, the first one echo; bytealg.MaxLen holds a number. -/
import Derived.Test.YtfibaopngpfmjaaGreatDoorPxPipe
set_option linter.unusedVariables false
set_option linter.unusedSimpArgs false
namespace Go.Proofs.YtfibaopngpfmjaaGreatDoor
open Go.RowKit Go.Proofs
/-- One simple command with the words of l, in rows of the call's own. -/
def LstSays (w : World) (g : Nat) (l : List Tok) (e : Ending) (w' : World) : Prop :=
  ∃ (p : Int) (ao : Option Addr) (cap : Nat) (cv : Value), e = .returned cv ∧ w'.ownsRow w.heap.size 31 6 cv 1 [.int .i64 1, .int .i64 p, .string (T []), .slice ao l.length cap, .slice none 0 0, .slice none 0 0] ∧ w'.ownsRow w.heap.size 36 5 (.slice ao l.length cap) l.length (wds l) ∧ PrS w' g l l.length ∧ w.grownBy w' (some g)
theorem below_of_none {w w' : World} (h : w.grownBy w' none) : Below w.heap.size w w' := ⟨h.os, h.tape, h.output, h.size, fun i hi => h.block i hi (fun e => by cases e)⟩
set_option maxRecDepth 100000 in
set_option maxHeartbeats 8000000 in
theorem list_any (g q : Nat) (m : Int) (l : List Tok) (w : World) (h : PrS w g l 0) (hl : l.length ≤ 900) (hl0 : 0 < l.length) (hw : Wds l) (he : tkAt l 0 = echoTok q) (hm : w.cell? ⟨0, 0, none⟩ = some (.int .i64 m)) :
    Calls Tryz.prog 45 #[.pointer (some ⟨g, 0, none⟩), .bool false] w fun e w' => LstSays w g l e w' := by
  obtain ⟨i0, hi, hz0, hz1, hz2⟩ := info_parts (P := Tryz.prog) (e := 31) (z := .agg #[.int .i64 0, .int .i64 0, .string ByteArray.empty, .slice none 0 0, .slice none 0 0, .slice none 0 0]) (size := 6) (bytes := 104) (by kernel_rfl)
  have hgl := h.lt
  have hm0 : 0 < w.heap.size := block_lt_of_cell hm
  have HS0 := Lib.hid h
  have HEN := Lib.hid (fun (j : Nat) (W : World) (h : PrS W g l j) (hj : j ≤ 1000) => ends_not g j l W h (by omega) hj hw)
  have HBG := Lib.hid (fun (W : World) (h : PrS W g l 0) => begins_yes g 0 l W h (by omega) hl0 hw)
  have HIT := Lib.hid (fun (W : World) (h : PrS W g l 0) hm => item_any g q m l W h hl hl0 hw he hm)
  have HM := Lib.hid hm
  have HLL := Lib.hid hl
  clear h hl hl0 hw he hm
  go_enter Tryz.func45, Tryz.ntmps45
  go_wp2_with fail
  have hp0 := HS0.out
  (with_reducible refine (HEN.out 0 _ hp0 (by omega)).mono ?_); rintro e w1 ⟨rfl, b1⟩
  have HS1 := Lib.hid (HS0.out.next b1)
  have HB1 := Lib.hid b1
  clear b1 HS0 hp0
  go_wp2_with fail
  refine wp_loop_rounds 1 ?_
  rw [rounds_succ]
  go_wp2_with fail
  have hp1 := HS1.out
  (with_reducible refine (HBG.out _ hp1).mono ?_); rintro e w2 ⟨rfl, b2⟩
  have HS2 := Lib.hid (HS1.out.next b2)
  have HB2 := Lib.hid (bnext HB1.out b2)
  have hm2 := (HB2.out.cell (p := ⟨0, 0, none⟩) hm0).trans HM.out
  clear b2 HS1 HB1 hp1
  go_wp2_with fail
  have hp2 := HS2.out
  (with_reducible refine (HIT.out _ hp2 hm2).mono ?_); rintro e w3 ⟨p, ao, cap, rfl, ho, hs, hg⟩
  have HO3 := Lib.hid (owns_lower ho HB2.out.size)
  have HS3 := Lib.hid hs
  have HG3 := Lib.hid ((below_grownBy HB2.out (some g)).trans hg)
  clear ho hs hg HS2 HB2 hp2 hm2 HIT HBG
  go_upto_region 5 with fail
  have HN4 := Lib.hid (heap_alloc_new w3 (.cells #[.int .i64 1, .int .i64 p, .string (T []), .slice ao l.length cap, .slice none 0 0, .slice none 0 0] 31))
  have HB4 := Lib.hid (alloc_below w3 (.cells #[.int .i64 1, .int .i64 p, .string (T []), .slice ao l.length cap, .slice none 0 0, .slice none 0 0] 31))
  have hsz3 := HG3.out.size
  generalize hw4 : w3.alloc _ = w4 at *
  clear hw4
  have HO4 := Lib.hid (own_next HO3.out HB4.out)
  have HS4 := Lib.hid (HS3.out.next HB4.out)
  have HG4 := Lib.hid (HG3.out.trans (below_grownBy HB4.out (some g)))
  clear HO3 HS3 HB4
  generalize w3.heap.size = tb at *
  have hlt4 : tb < w4.heap.size := row_ltP HN4.out
  obtain ⟨c0, c1, c2, c3, c4, c5⟩ := six_cells HN4.out
  go_wp2_with (at_builtin; refine wpList_append_any _ rfl _ _ 23 rfl w.heap.size 31 i0 (.agg #[.int .i64 0, .int .i64 0, .string ByteArray.empty, .slice none 0 0, .slice none 0 0, .slice none 0 0]) 6 104 Tryz.underlying23 hi hz0 hz1 hz2 rfl (by decide) (.slice none 0 0) 0 [] rfl ?c0 (some ⟨w4.heap.size, 0, none⟩) 1 1 [.int .i64 1, .int .i64 p, .string (T []), .slice ao l.length cap, .slice none 0 0, .slice none 0 0] rfl ?c1 rfl ?c2 ?c3 ?c4 ?c5 ?c6 ?_)
  case c0 => exact ⟨rfl, .inl ⟨rfl, rfl⟩⟩
  case c1 => intro h; cases h
  case c2 =>
    intro ad had
    cases had
    exact World.news_of_block (t := 31) (fr := (0, 0)) (heap_alloc_new w4 _)
  case c3 =>
    intro u hu
    simp only [List.mem_cons, List.not_mem_nil, or_false] at hu
    rcases hu with rfl | rfl | rfl | rfl | rfl | rfl <;> rfl
  case c4 => unfold maxLen; omega
  case c5 => omega
  case c6 => have := HG4.out.size; simp; omega
  intro v' w5 hown5 hgrow5 _
  obtain ⟨co, ccap, rfl, _⟩ := own_form hown5
  have HB5 := Lib.hid (bnext (alloc_below w4 (.cells #[.int .i64 1, .int .i64 p, .string (T []), .slice ao l.length cap, .slice none 0 0, .slice none 0 0] 31)) (below_of_none hgrow5))
  have HO5 := Lib.hid (own_next HO4.out HB5.out)
  have HS5 := Lib.hid (HS4.out.next HB5.out)
  have HN5 := Lib.hid ((HB5.out.block _ (row_ltP HN4.out)).trans HN4.out)
  have HG5 := Lib.hid (HG4.out.trans (below_grownBy HB5.out (some g)))
  have HC5 := Lib.hid hown5
  clear hown5 hgrow5 HO4 HS4 HN4 HG4 HB5 c0 c1 c2 c3 c4 c5
  go_wp2_with fail
  have hp5 := HS5.out
  have hll := HLL.out
  (with_reducible refine (HEN.out l.length _ hp5 (by omega)).mono ?_); rintro e w6 ⟨rfl, b6⟩
  have HO6 := Lib.hid (own_next HO5.out b6)
  have HS6 := Lib.hid (HS5.out.next b6)
  have HN6 := Lib.hid ((b6.block _ (row_ltP HN5.out)).trans HN5.out)
  have HG6 := Lib.hid (HG5.out.trans (below_grownBy b6 (some g)))
  have HC6 := Lib.hid (own_next HC5.out b6)
  clear b6 HO5 HS5 HN5 HG5 HC5 hp5
  obtain ⟨c0, c1, c2, c3, c4, c5⟩ := six_cells HN6.out
  go_wp2_with fail
  go_ret
  exact ⟨p, ao, cap, _, rfl, HC6.out, HO6.out, HS6.out, HG6.out⟩
end Go.Proofs.YtfibaopngpfmjaaGreatDoor
