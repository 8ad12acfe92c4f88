/- What the parser's small tests of a token return. Conditions: tokens that are words, or the zero token. -/
import Derived.Test.YtfibaopngpfmjaaGreatDoorPxPrs
set_option linter.unusedVariables false
set_option linter.unusedSimpArgs false
namespace Go.Proofs.YtfibaopngpfmjaaGreatDoor
open Go.RowKit Go.Proofs
theorem ptok0 (g n : Nat) (l : List Tok) (w : World) (h : PrS w g l n) (hl : l.length ≤ 1000) (hn : n ≤ 1000) :
    Calls Tryz.prog 97 #[.pointer (some ⟨g, 0, none⟩), .int .i64 0] w fun e w' => e = .returned (tkval (tkAt l n)) ∧ Below w.heap.size w w' := ptok_any g n 0 l w h hl hn (by omega)
theorem ptok1 (g n : Nat) (l : List Tok) (w : World) (h : PrS w g l n) (hl : l.length ≤ 1000) (hn : n ≤ 1000) :
    Calls Tryz.prog 97 #[.pointer (some ⟨g, 0, none⟩), .int .i64 1] w fun e w' => e = .returned (tkval (tkAt l (n + 1))) ∧ Below w.heap.size w w' := ptok_any g n 1 l w h hl hn (by omega)
/-- All tokens are words. -/
def Wds (l : List Tok) : Prop := ∀ t ∈ l, t.kind = 1
theorem Wds.in {l : List Tok} (h : Wds l) {n : Nat} (hn : n < l.length) : (tkAt l n).kind = 1 := by
  unfold tkAt
  rw [List.getD_eq_getElem?_getD, List.getElem?_eq_getElem hn]
  exact h _ (List.getElem_mem hn)
theorem tk_out {l : List Tok} {n : Nat} (hn : l.length ≤ n) : tkAt l n = tzero := by
  unfold tkAt
  rw [List.getD_eq_getElem?_getD, List.getElem?_eq_none hn]
  rfl
theorem Wds.or {l : List Tok} (h : Wds l) (n : Nat) : (tkAt l n).kind = 1 ∨ (tkAt l n).kind = 0 := by
  rcases Nat.lt_or_ge n l.length with h1 | h1
  · exact .inl (h.in h1)
  · rw [tk_out h1]; exact .inr rfl
/-- Neither a symbol, a break nor a document. -/
def Tok.soft (t : Tok) : Prop := (t.kind == 2) = false ∧ (t.kind == 3) = false ∧ (t.kind == 4) = false
theorem Wds.soft {l : List Tok} (h : Wds l) (n : Nat) : (tkAt l n).soft := by
  rcases h.or n with e | e <;> (unfold Tok.soft; rw [e]; exact ⟨rfl, rfl, rfl⟩)
theorem is_not (t : Tok) (y : ByteArray) (w : World) (h : t.soft) :
    Calls Tryz.prog 156 #[tkval t, .string y] w fun e w' => e = .returned (.bool false) ∧ Below w.heap.size w w' := by
  obtain ⟨h2, h3, h4⟩ := h
  have HB := Lib.hid (Below.refl w.heap.size w)
  unfold tkval
  go_enter Tryz.func156, Tryz.ntmps156
  go_wp2_with fail
  go_ret
  exact ⟨rfl, HB.out.alloc (Nat.le_refl _) _⟩
set_option maxHeartbeats 1000000 in
theorem sees_not (g n : Nat) (l : List Tok) (y : ByteArray) (w : World) (h : PrS w g l n) (hl : l.length ≤ 1000) (hn : n ≤ 1000) (hw : Wds l) :
    Calls Tryz.prog 155 #[.pointer (some ⟨g, 0, none⟩), .string y] w fun e w' => e = .returned (.bool false) ∧ Below w.heap.size w w' := by
  have HT := Lib.hid (ptok0 g n l w h hl hn)
  have HI := Lib.hid (fun (W : World) => is_not (tkAt l n) y W (hw.soft n))
  clear h hl hn hw
  generalize tkval (tkAt l n) = tv at *
  go_enter Tryz.func155, Tryz.ntmps155
  go_wp2_with fail
  (with_reducible refine HT.out.mono ?_); rintro e w1 ⟨rfl, b1⟩
  have HB1 := Lib.hid b1
  clear b1
  go_wp2_with fail
  (with_reducible refine (HI.out _).mono ?_); rintro e w2 ⟨rfl, b2⟩
  have HB2 := Lib.hid (bnext HB1.out b2)
  clear b2
  go_wp2_with fail
  go_ret
  exact ⟨rfl, HB2.out⟩
set_option maxHeartbeats 1000000 in
theorem accept_not (g n : Nat) (l : List Tok) (y : ByteArray) (w : World) (h : PrS w g l n) (hl : l.length ≤ 1000) (hn : n ≤ 1000) (hw : Wds l) :
    Calls Tryz.prog 160 #[.pointer (some ⟨g, 0, none⟩), .string y] w fun e w' => e = .returned (.bool false) ∧ Below w.heap.size w w' := by
  have HT := Lib.hid (sees_not g n l y w h hl hn hw)
  clear h hl hn hw
  go_enter Tryz.func160, Tryz.ntmps160
  go_wp2_with fail
  (with_reducible refine HT.out.mono ?_); rintro e w1 ⟨rfl, b1⟩
  have HB1 := Lib.hid b1
  clear b1
  go_wp2_with fail
  go_ret
  exact ⟨rfl, HB1.out⟩
theorem begw_yes (t : Tok) (w : World) (h : t.kind = 1) :
    Calls Tryz.prog 157 #[tkval t] w fun e w' => e = .returned (.bool true) ∧ Below w.heap.size w w' := by
  have HB := Lib.hid (Below.refl w.heap.size w)
  unfold tkval
  rw [h]
  go_enter Tryz.func157, Tryz.ntmps157
  go_wp2_with fail
  go_ret
  exact ⟨rfl, HB.out.alloc (Nat.le_refl _) _⟩
theorem tzval : tkval tzero = .agg #[.int .i64 0, .int .i64 0, .string (T []), .string (T [])] := rfl
theorem tz_soft : tzero.soft := ⟨rfl, rfl, rfl⟩
set_option maxHeartbeats 1000000 in
theorem begw_no (w : World) :
    Calls Tryz.prog 157 #[tkval tzero] w fun e w' => e = .returned (.bool false) ∧ Below w.heap.size w w' := by
  have HB := Lib.hid (show Below w.heap.size w (w.alloc (.cells #[.int .i64 0, .int .i64 0, .string (T []), .string (T [])] 132)) from (Below.refl w.heap.size w).alloc (Nat.le_refl _) _)
  have HI := Lib.hid (fun (y : ByteArray) (W : World) => is_not tzero y W tz_soft)
  have HN := Lib.hid (heap_alloc_new w (.cells #[.int .i64 0, .int .i64 0, .string (T []), .string (T [])] 132))
  rw [tzval] at HI ⊢
  go_enter Tryz.func157, Tryz.ntmps157
  go_wp2_with fail
  generalize World.alloc _ _ = w1 at *
  (with_reducible refine (HI.out _ _).mono ?_); rintro e w2 ⟨rfl, b2⟩
  have HB2 := Lib.hid (bnext HB.out b2)
  have HN2 := Lib.hid ((b2.block _ (row_ltP HN.out)).trans HN.out)
  clear b2
  obtain ⟨q0, q1, q2, q3⟩ := four_cells HN2.out
  go_wp2_with fail
  (with_reducible refine (HI.out _ _).mono ?_); rintro e w3 ⟨rfl, b3⟩
  have HB3 := Lib.hid (bnext HB2.out b3)
  have HN3 := Lib.hid ((b3.block _ (row_ltP HN2.out)).trans HN2.out)
  clear b3 q0 q1 q2 q3
  obtain ⟨q0, q1, q2, q3⟩ := four_cells HN3.out
  go_wp2_with fail
  (with_reducible refine (HI.out _ _).mono ?_); rintro e w4 ⟨rfl, b4⟩
  have HB4 := Lib.hid (bnext HB3.out b4)
  have HN4 := Lib.hid ((b4.block _ (row_ltP HN3.out)).trans HN3.out)
  clear b4 q0 q1 q2 q3
  obtain ⟨q0, q1, q2, q3⟩ := four_cells HN4.out
  go_wp2_with fail
  (with_reducible refine (HI.out _ _).mono ?_); rintro e w5 ⟨rfl, b5⟩
  have HB5 := Lib.hid (bnext HB4.out b5)
  clear b5 q0 q1 q2 q3
  go_wp2_with fail
  go_ret
  exact ⟨rfl, HB5.out⟩
theorem begr_no (t : Tok) (w : World) (h : t.soft) :
    Calls Tryz.prog 158 #[tkval t] w fun e w' => e = .returned (.bool false) ∧ Below w.heap.size w w' := by
  obtain ⟨h2, h3, h4⟩ := h
  have HB := Lib.hid (Below.refl w.heap.size w)
  unfold tkval
  go_enter Tryz.func158, Tryz.ntmps158
  go_wp2_with fail
  go_ret
  exact ⟨rfl, HB.out.alloc (Nat.le_refl _) _⟩
theorem fld_tok (v0 v1 v2 v3 : Value) (w : World) : (Instr.field 132 (.agg #[v0, v1, v2, v3]) 0).run Tryz.prog w = .ok v0 w := by kernel_rfl
theorem fld_tok1 (v0 v1 v2 v3 : Value) (w : World) : (Instr.field 132 (.agg #[v0, v1, v2, v3]) 1).run Tryz.prog w = .ok v1 w := by kernel_rfl
set_option maxRecDepth 100000 in
set_option maxHeartbeats 2000000 in
theorem ends_not (g n : Nat) (l : List Tok) (w : World) (h : PrS w g l n) (hl : l.length ≤ 1000) (hn : n ≤ 1000) (hw : Wds l) :
    Calls Tryz.prog 93 #[.pointer (some ⟨g, 0, none⟩)] w fun e w' => e = .returned (.bool false) ∧ Below w.heap.size w w' := by
  have HT := Lib.hid (ptok0 g n l w h hl hn)
  have HI := Lib.hid (fun (W : World) (h : PrS W g l n) => sees_not g n l (T [59]) W h hl hn hw)
  have HS := Lib.hid h
  obtain ⟨x, tv, dv, B, hr, _, _⟩ := h
  obtain ⟨⟨r0, r1, r2, r3⟩, f3⟩ := hr.reads
  have h3 := (hw.soft n).2.1
  clear hl hn hw hr
  unfold tkval at HT
  generalize tkAt l n = t at *
  have hfd := fld_tok
  go_enter Tryz.func93, Tryz.ntmps93
  go_wp2_with fail
  refine wp_loop_rounds 1 ?_
  rw [rounds_succ]
  go_wp2_with fail
  (with_reducible refine HT.out.mono ?_); rintro e w1 ⟨rfl, b1⟩
  have HS1 := Lib.hid (HS.out.next b1)
  have HB1 := Lib.hid b1
  clear b1 r0 r1 r2 r3 f3
  go_wp2_with fail
  (with_reducible refine (HI.out _ HS1.out).mono ?_); rintro e w2 ⟨rfl, b2⟩
  have HS2 := Lib.hid (HS1.out.next b2)
  have HB2 := Lib.hid (bnext HB1.out b2)
  clear b2
  obtain ⟨x, tv, dv, B, hr, _, _⟩ := HS2.out
  obtain ⟨⟨r0, r1, r2, r3⟩, f3⟩ := hr.reads
  clear hr
  go_wp2_with fail
  go_ret
  exact ⟨rfl, HB2.out⟩
end Go.Proofs.YtfibaopngpfmjaaGreatDoor
