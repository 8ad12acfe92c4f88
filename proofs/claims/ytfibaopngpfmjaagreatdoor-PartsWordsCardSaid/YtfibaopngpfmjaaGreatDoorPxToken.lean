/- What the scanner's add and token do at a word. Conditions: at most 900 tokens, all words; a program of at most 10000 bytes. -/
import Derived.Test.YtfibaopngpfmjaaGreatDoorPxAppend
set_option linter.unusedVariables false
set_option linter.unusedSimpArgs false
namespace Go.Proofs.YtfibaopngpfmjaaGreatDoor
open Go.RowKit Go.Proofs
theorem own_next {w w' : World} {base : Nat} {e : TypeId} {size n : Nat} {v : Value} {xs : List Value} (h : w.ownsRow base e size v n xs) (hb : Below w.heap.size w w') : w'.ownsRow base e size v n xs := by
  refine ⟨h.1, ?_⟩
  rcases h.2 with h | ⟨g, cap, cur, hv, hg, hrow, hrest⟩
  · exact .inl h
  · exact .inr ⟨g, cap, cur, hv, hg, (hb.block g (row_ltP hrow)).trans hrow, hrest⟩
theorem ScS.next {w w' : World} {g B : Nat} {s : List UInt8} {at_ en : Nat} {l : List Tok} (h : ScS w g B s at_ en l) (hb : Below w.heap.size w w') : ScS w' g B s at_ en l := by
  obtain ⟨tv, h1, h2, h3⟩ := h
  exact ⟨tv, h1.next hb, own_next h2 hb, h3⟩
theorem below_of_grown {w w' : World} {g : Nat} (hg : w.grownBy w' (some g)) (hl : g < w.heap.size) : Below g w w' :=
  ⟨hg.os, hg.tape, hg.output, hg.size, fun i hi => hg.block i (by omega) (fun e => by cases e; omega)⟩
theorem ScS.lt {w : World} {g B : Nat} {s : List UInt8} {at_ en : Nat} {l : List Tok} (h : ScS w g B s at_ en l) : g < w.heap.size := by
  obtain ⟨tv, h1, _⟩ := h
  exact row_ltP h1
set_option maxRecDepth 100000 in
set_option maxHeartbeats 4000000 in
theorem add_tok (g B : Nat) (s : List UInt8) (at_ en : Nat) (l : List Tok) (t : Tok) (w : World) (h : ScS w g B s at_ en l) (hn : l.length ≤ 1000) (hB : B ≤ w.heap.size) (ht : t.kind = 1) :
    Calls Tryz.prog 91 #[.pointer (some ⟨g, 0, none⟩), .agg #[.int .i64 1, .int .i64 (t.pos : Int), .string (T t.text), .string (T t.quoted)], .bool false] w fun e w' => e = .returned (.bool true) ∧ ScS w' g B s at_ en (l ++ [t]) ∧ Below g w w' := by
  have hgl := h.lt
  have HW := Lib.hid (show Below w.heap.size w (w.alloc (.cells #[.int .i64 1, .int .i64 (t.pos : Int), .string (T t.text), .string (T t.quoted)] 132)) from (Below.refl _ w).alloc (Nat.le_refl _) _)
  have HA := Lib.hid (append_tok g B s at_ en l t _ (h.next HW.out) hn (by simp; omega))
  rw [ht] at HA
  clear h
  go_enter Tryz.func91, Tryz.ntmps91
  go_wp2_with fail
  (with_reducible refine HA.out.mono ?_); rintro e w1 ⟨rfl, hs1, b1⟩
  have HS := Lib.hid hs1
  have HB := Lib.hid (show Below g w w1 from (HW.out.mono (by omega)).trans b1)
  clear hs1 b1
  go_wp2_with fail
  go_ret
  exact ⟨rfl, HS.out, HB.out⟩
set_option maxRecDepth 100000 in
set_option maxHeartbeats 4000000 in
theorem token_any (g B : Nat) (s v tl : List UInt8) (at_ en : Nat) (l : List Tok) (w : World) (h : ScS w g B s at_ en l) (hl : l = [] ∨ en ≠ at_) (hk : ∀ t ∈ l, t.kind = 1) (hn : l.length ≤ 1000) (hB : B ≤ w.heap.size) (ha : at_ ≤ s.length) (hs : s.length ≤ 10000) (hd : s.drop at_ = Lx.quote v ++ tl) (htl : Lx.stop tl) :
    Calls Tryz.prog 42 #[.pointer (some ⟨g, 0, none⟩)] w fun e w' => e = .returned (.bool true) ∧ ScS w' g B s (s.length - tl.length) en (l ++ [⟨1, at_, v, Lx.marks v⟩]) ∧ Below g w w' := by
  have hgl := h.lt
  have HT := Lib.hid (touches_any g B s at_ en l w h hl hn hk)
  obtain ⟨c, r, hq, hc⟩ := Lx.quote_head v
  have HY := Lib.hid (fun (W : World) (tv : Value) (h : ScRow W g s at_ en tv) => symbol_none g s at_ en tv W c (r ++ tl) h ha hs (by rw [hd, hq]; rfl) hc)
  have HWd := Lib.hid (fun (W : World) (tv : Value) (h : ScRow W g s at_ en tv) => word_any g s v tl at_ en tv W h ha hs hd htl)
  have HAd := Lib.hid (fun (W : World) (h : ScS W g B s (s.length - tl.length) en l) hB => add_tok g B s (s.length - tl.length) en l ⟨1, at_, v, Lx.marks v⟩ W h hn hB rfl)
  have HS := Lib.hid h
  obtain ⟨tv, hr, hown, hgB⟩ := h
  obtain ⟨⟨r0, r1, _⟩, _⟩ := hr.reads
  have HN := Lib.hid hB
  clear hr hown hl hk hn hB ha hs hd htl hq hc
  go_enter Tryz.func42, Tryz.ntmps42
  go_wp2_with fail
  (with_reducible refine HT.out.mono ?_); rintro e w1 ⟨rfl, b1⟩
  have HS1 := Lib.hid (HS.out.next b1)
  have HB1 := Lib.hid b1
  clear b1 HS HT r0 r1
  go_wp2_with fail
  obtain ⟨tv1, hr1, hown1, _⟩ := HS1.out
  (with_reducible refine (HY.out _ _ hr1).mono ?_); rintro e w2 ⟨rfl, b2⟩
  have HS2 := Lib.hid (HS1.out.next b2)
  have HB2 := Lib.hid (bnext HB1.out b2)
  clear b2 hr1 hown1 HS1 HB1 HY
  go_wp2_with fail
  obtain ⟨tv2, hr2, hown2, _⟩ := HS2.out
  (with_reducible refine (HWd.out _ _ hr2).mono ?_); rintro e w3 ⟨rfl, hr3, g3⟩
  have HS3 := Lib.hid (show ScS w3 g B s (s.length - tl.length) en l from ⟨tv2, hr3, hown2.kept g3 (Or.inr (own_not hown2 hgB)), hgB⟩)
  have HB3 := Lib.hid (show Below g w w3 from (HB2.out.mono (by omega)).trans (below_of_grown g3 (row_ltP hr2)))
  have HN3 := Lib.hid (show B ≤ w3.heap.size from Nat.le_trans HN.out HB3.out.size)
  clear hr2 hown2 hr3 g3 HS2 HB2 HWd
  go_wp2_with fail
  (with_reducible refine (HAd.out _ HS3.out HN3.out).mono ?_); rintro e w4 ⟨rfl, hs4, b4⟩
  have HS4 := Lib.hid hs4
  have HB4 := Lib.hid (HB3.out.trans b4)
  clear hs4 b4
  go_wp2_with fail
  go_ret
  exact ⟨rfl, HS4.out, HB4.out⟩
end Go.Proofs.YtfibaopngpfmjaaGreatDoor
