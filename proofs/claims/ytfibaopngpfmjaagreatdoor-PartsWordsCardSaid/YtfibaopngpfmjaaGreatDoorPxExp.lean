/- What expand.Word returns at a text: the text and its marks. Conditions: as many marks as bytes. -/
import Derived.Test.YtfibaopngpfmjaaGreatDoorPxProg
set_option linter.unusedVariables false
set_option linter.unusedSimpArgs false
namespace Go.Proofs.YtfibaopngpfmjaaGreatDoor
open Go.RowKit Go.Proofs
set_option maxRecDepth 100000 in
set_option maxHeartbeats 2000000 in
theorem eword_any (t : Tok) (w : World) (hq : t.quoted.length = t.text.length) :
    Calls Tryz.prog 20 #[.slice none 0 0, .int .i64 0, .agg #[.int .i64 1, .string (T t.text), .string (T t.quoted), .slice none 0 0, .slice none 0 0]] w fun e w' => ∃ b, e = .returned (.tuple #[.slice (some ⟨b, 0, none⟩) 1 1, .int .i64 0]) ∧ w'.cell? ⟨b, 0, none⟩ = some (.string (T t.text)) ∧ w'.cell? ⟨b, 1, none⟩ = some (.string (T t.quoted)) ∧ Below w.heap.size w w' := by
  have h1 : (T t.text).size = t.text.length := T_size _
  have h2 : (T t.quoted).size = t.text.length := by rw [T_size, hq]
  have HB := Lib.hid (bnext (alloc_below w (.cells #[.int .i64 1, .string (T t.text), .string (T t.quoted), .slice none 0 0, .slice none 0 0] 36)) (alloc_below _ (.cells #[.string (T t.text), .string (T t.quoted)] 69)))
  have hn := heap_alloc_new (w.alloc (.cells #[.int .i64 1, .string (T t.text), .string (T t.quoted), .slice none 0 0, .slice none 0 0] 36)) (.cells #[.string (T t.text), .string (T t.quoted)] 69)
  rw [show (w.alloc (.cells #[.int .i64 1, .string (T t.text), .string (T t.quoted), .slice none 0 0, .slice none 0 0] 36)).heap.size = w.heap.size + 1 from by simp] at hn
  have HN := Lib.hid hn
  clear hq hn
  go_enter Tryz.func20, Tryz.ntmps20
  go_wp2_with fail
  go_ret2
  exact ⟨_, rfl, by rw [Lib.cell_of_heap HN.out]; rfl, by rw [Lib.cell_of_heap HN.out]; rfl, HB.out⟩
/-- Where the texts of a slice of one text lie. -/
theorem one_text {w : World} {B : Nat} {v : Value} {x : ByteArray} (h : w.ownsRow B 9 1 v 1 [.string x]) : ∃ b c, v = .slice (some ⟨b, 0, none⟩) 1 c ∧ w.cell? ⟨b, 0, none⟩ = some (.string x) := by
  obtain ⟨ao, cap, rfl, hc⟩ := own_form h
  obtain ⟨k, rfl, hcell⟩ := hc (by omega)
  exact ⟨k, cap, rfl, hcell 0 _ rfl⟩
set_option maxRecDepth 100000 in
set_option maxHeartbeats 4000000 in
theorem texts_one (b : Nat) (x y : ByteArray) (w : World) (h0 : w.cell? ⟨b, 0, none⟩ = some (.string x)) (h1 : w.cell? ⟨b, 1, none⟩ = some (.string y)) :
    Calls Tryz.prog 21 #[.slice (some ⟨b, 0, none⟩) 1 1] w fun e w' => ∃ a c, e = .returned (.slice (some ⟨a, 0, none⟩) 1 c) ∧ w'.cell? ⟨a, 0, none⟩ = some (.string x) ∧ Below w.heap.size w w' := by
  obtain ⟨i0, hi, hz0, hz1, hz2⟩ := info_parts (P := Tryz.prog) (e := 9) (z := .string ByteArray.empty) (size := 1) (bytes := 16) (by kernel_rfl)
  have HB1 := Lib.hid (alloc_below w (.cells #[.string x, .string y] 69))
  have HN1 := Lib.hid (heap_alloc_new w (.cells #[.string x, .string y] 69))
  go_enter Tryz.func21, Tryz.ntmps21
  go_wp2_with fail
  refine wp_loop_rounds 2 ?_
  rw [rounds_succ]
  go_upto_region 5 with fail
  generalize hw1 : w.alloc _ = w1 at *
  clear hw1
  have c0 : w1.cell? ⟨w.heap.size, 0, none⟩ = some (.string x) := by rw [Lib.cell_of_heap HN1.out]; rfl
  have c1 : w1.cell? ⟨w.heap.size, 1, none⟩ = some (.string y) := by rw [Lib.cell_of_heap HN1.out]; rfl
  have hsz1 := HB1.out.size
  go_wp2_with (at_builtin; refine wpList_append_any _ rfl _ _ 32 rfl w.heap.size 9 i0 (.string ByteArray.empty) 1 16 Tryz.underlying32 hi hz0 hz1 hz2 rfl (by decide) (.slice none 0 0) 0 [] rfl ?c0 (some ⟨w1.heap.size, 0, none⟩) 1 1 [.string x] rfl ?c1 rfl ?c2 ?c3 ?c4 ?c5 ?c6 ?_)
  case c0 => exact ⟨rfl, .inl ⟨rfl, rfl⟩⟩
  case c1 => intro h; cases h
  case c2 =>
    intro ad had
    cases had
    exact World.news_of_block (t := 9) (fr := (0, 0)) (heap_alloc_new w1 _)
  case c3 =>
    intro u hu
    simp only [List.mem_cons, List.not_mem_nil, or_false] at hu
    rcases hu with rfl <;> rfl
  case c4 => unfold maxLen; omega
  case c5 => omega
  case c6 => simp; omega
  intro v' w2 hown2 hgrow2 _
  obtain ⟨a, c, rfl, hca⟩ := one_text hown2
  have HC := Lib.hid hca
  have HB2 := Lib.hid (bnext HB1.out (bnext (alloc_below w1 (.cells #[.string x] 9)) (below_of_none hgrow2)))
  clear hca hown2 hgrow2
  go_wp2_with fail
  rw [rounds_succ]
  go_wp2_with fail
  go_ret
  exact ⟨a, c, rfl, HC.out, HB2.out⟩
set_option maxRecDepth 100000 in
set_option maxHeartbeats 4000000 in
theorem expWord_any (t : Tok) (w : World) (hq : t.quoted.length = t.text.length) :
    Calls Tryz.prog 8 #[.slice none 0 0, .int .i64 0, .agg #[.int .i64 1, .string (T t.text), .string (T t.quoted), .slice none 0 0, .slice none 0 0]] w fun e w' => ∃ a c b d, e = .returned (.tuple #[.slice (some ⟨a, 0, none⟩) 1 c, .slice (some ⟨b, 0, none⟩) 1 d, .int .i64 0]) ∧ w'.cell? ⟨a, 0, none⟩ = some (.string (T t.text)) ∧ w'.cell? ⟨b, 0, none⟩ = some (.string (T t.quoted)) ∧ Below w.heap.size w w' := by
  obtain ⟨i0, hi, hz0, hz1, hz2⟩ := info_parts (P := Tryz.prog) (e := 9) (z := .string ByteArray.empty) (size := 1) (bytes := 16) (by kernel_rfl)
  have HB1 := Lib.hid (alloc_below w (.cells #[.int .i64 1, .string (T t.text), .string (T t.quoted), .slice none 0 0, .slice none 0 0] 36))
  have HW := Lib.hid (fun (W : World) => eword_any t W hq)
  clear hq
  go_enter Tryz.func8, Tryz.ntmps8
  go_wp2_with fail
  generalize hw1 : w.alloc _ = w1 at *
  clear hw1
  (with_reducible refine (HW.out _).mono ?_); rintro e w2 ⟨vb, rfl, h0, h1, b2⟩
  have HB2 := Lib.hid (bnext HB1.out b2)
  clear b2 HB1
  go_wp2_with fail
  refine wp_loop_rounds 2 ?_
  rw [rounds_succ]
  go_upto_region 8 with fail
  have HB3 := Lib.hid (alloc_below w2 (.cells #[.string (T t.text), .string (T t.quoted)] 69))
  have HN3 := Lib.hid (heap_alloc_new w2 (.cells #[.string (T t.text), .string (T t.quoted)] 69))
  have HV := Lib.hid (And.intro h0 h1)
  clear h0 h1
  generalize hw3 : w2.alloc _ = w3 at *
  clear hw3
  generalize htb : w2.heap.size = tb at *
  have c0 : w3.cell? ⟨tb, 0, none⟩ = some (.string (T t.text)) := by rw [Lib.cell_of_heap HN3.out]; rfl
  have c1 : w3.cell? ⟨tb, 1, none⟩ = some (.string (T t.quoted)) := by rw [Lib.cell_of_heap HN3.out]; rfl
  have hsz3 : w.heap.size ≤ w3.heap.size := by have h1 := HB3.out.size; have h2 := HB2.out.size; omega
  go_wp2_with (at_builtin; refine wpList_append_any _ rfl _ _ 32 rfl w.heap.size 9 i0 (.string ByteArray.empty) 1 16 Tryz.underlying32 hi hz0 hz1 hz2 rfl (by decide) (.slice none 0 0) 0 [] rfl ?c0 (some ⟨w3.heap.size, 0, none⟩) 1 1 [.string (T t.quoted)] rfl ?c1 rfl ?c2 ?c3 ?c4 ?c5 ?c6 ?_)
  case c0 => exact ⟨rfl, .inl ⟨rfl, rfl⟩⟩
  case c1 => intro h; cases h
  case c2 =>
    intro ad had
    cases had
    exact World.news_of_block (t := 9) (fr := (0, 0)) (heap_alloc_new w3 _)
  case c3 =>
    intro u hu
    simp only [List.mem_cons, List.not_mem_nil, or_false] at hu
    rcases hu with rfl <;> rfl
  case c4 => unfold maxLen; omega
  case c5 => omega
  case c6 => simp; omega
  intro v' w4 hown4 hgrow4 _
  obtain ⟨mb, md, rfl, hcm⟩ := one_text hown4
  have HM := Lib.hid hcm
  have hb4 := bnext (show Below w2.heap.size w2 w3 by rw [htb]; exact HB3.out) (bnext (alloc_below w3 (.cells #[.string (T t.quoted)] 9)) (below_of_none hgrow4))
  have HB4 := Lib.hid (bnext HB2.out hb4)
  have hvl := block_lt_of_cell HV.out.1
  have HTX := Lib.hid (texts_one vb (T t.text) (T t.quoted) w4 (cell_below hb4 hvl HV.out.1) (cell_below hb4 hvl HV.out.2))
  have hml := block_lt_of_cell hcm
  clear hcm hown4 hgrow4 hb4 c0 c1 HB2
  go_wp2_with fail
  rw [rounds_succ]
  go_wp2_with fail
  (with_reducible refine HTX.out.mono ?_); rintro e w5 ⟨a, c, rfl, hca, b5⟩
  have HC := Lib.hid hca
  have HM5 := Lib.hid (cell_below b5 hml HM.out)
  have HB5 := Lib.hid (bnext HB4.out b5)
  clear hca b5
  go_wp2_with fail
  go_ret3
  exact ⟨a, c, mb, md, rfl, HC.out, HM5.out, HB5.out⟩
end Go.Proofs.YtfibaopngpfmjaaGreatDoor
