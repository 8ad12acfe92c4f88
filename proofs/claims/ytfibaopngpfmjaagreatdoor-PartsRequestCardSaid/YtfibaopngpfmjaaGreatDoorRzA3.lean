/- The scanner of the shell: its block, blanks, builders of text. Conditions: those that each theorem names. -/
import Derived.Test.YtfibaopngpfmjaaGreatDoorRzA2
import Derived.Test.YtfibaopngpfmjaaGreatDoorRzA1
import Derived.Deep.Onto
import Derived.LoopN
import Derived.Maps.AppendAt
import Derived.Deep.LoopGhost
import Derived.Deep.RegionHeld3
set_option linter.unusedVariables false
set_option linter.unusedSimpArgs false
set_option maxRecDepth 100000
set_option maxHeartbeats 4000000
namespace Go.Proofs.YtfibaopngpfmjaaGreatDoor
open Go.RowKit
theorem row_ltP {w : World} {p : Nat} {o : Obj} (h : w.heap[p]? = some o) : p < w.heap.size := by
 rcases Nat.lt_or_ge p w.heap.size with h2 | h2
 ·exact h2
 ·rw [Array.getElem?_eq_none h2] at h; cases h
theorem extract_TP (s : ByteArray) (a b : Nat) : s.extract a b = T ((s.data.toList.drop a).take (b - a)) := by
 apply ByteArray.ext
 apply Array.ext'
 simp
theorem drop_T (s : List UInt8) (a : Nat) : (T s).extract a s.length = T (s.drop a) := by
 rw [extract_TP, T_list]
 congr 1
 rw [List.take_of_length_le (by rw [List.length_drop]; exact Nat.le_refl _)]
/-- A token of the scanner. -/
structure Tok where
 kind : Int
 pos : Nat
 text : List UInt8
 quoted : List UInt8
def tokv (t : Tok) : List Value := [.int .i64 t.kind, .int .i64 (t.pos : Int), .string (T t.text), .string (T t.quoted)]
def toks (l : List Tok) : List Value := l.flatMap tokv
/-- The scanner's block. -/
def ScRow (w : World) (g : Nat) (s : List UInt8) (at_ en : Nat) (tv : Value) : Prop :=
 w.heap[g]? = some (.cells #[.string (T s), .int .i64 (at_ : Int), tv, .slice none 0 0, .int .i64 (en : Int), .int .i64 0, .int .i64 0] 95 (0, 0))
theorem ScRow.reads {w : World} {g : Nat} {s : List UInt8} {at_ en : Nat} {tv : Value} (h : ScRow w g s at_ en tv) :
  (w.cell? ⟨g, 0, none⟩ = some (.string (T s)) ∧ w.cell? ⟨g, 1, none⟩ = some (.int .i64 (at_ : Int)) ∧ w.cell? ⟨g, 2, none⟩ = some tv ∧ w.cell? ⟨g, 3, none⟩ = some (.slice none 0 0) ∧ w.cell? ⟨g, 4, none⟩ = some (.int .i64 (en : Int)) ∧ w.cell? ⟨g, 5, none⟩ = some (.int .i64 0) ∧ w.cell? ⟨g, 6, none⟩ = some (.int .i64 0)) ∧
  (w.frozen? ⟨g, 1, none⟩ = false ∧ w.frozen? ⟨g, 2, none⟩ = false ∧ w.frozen? ⟨g, 4, none⟩ = false) := by
 unfold ScRow at h
 refine ⟨⟨?_, ?_, ?_, ?_, ?_, ?_, ?_⟩, ?_, ?_, ?_⟩
 all_goals first
  | (rw [Lib.cell_of_heap h]; rfl)
  | (exact Lib.frozen_of_heap h _)
theorem ScRow.next {w w' : World} {g : Nat} {s : List UInt8} {at_ en : Nat} {tv : Value} (h : ScRow w g s at_ en tv) (hb : Below w.heap.size w w') : ScRow w' g s at_ en tv :=
 (hb.block _ (row_ltP h)).trans h
theorem ScRow.setAt {w : World} {g : Nat} {s : List UInt8} {at_ en : Nat} {tv : Value} (h : ScRow w g s at_ en tv) (n : Nat) : ScRow (w.setCell ⟨g, 1, none⟩ (.int .i64 (n : Int))) g s n en tv :=
 heap_setCell_same w g 1 _ _ (.int .i64 (n : Int)) h
theorem below_drewN (w : World) (n : Nat) : Below w.heap.size w (w.drewN n) := ⟨rfl, rfl, rfl, Nat.le_refl _, fun _ _ => rfl⟩
theorem rest_any (g : Nat) (s : List UInt8) (at_ en : Nat) (tv : Value) (w : World) (h : ScRow w g s at_ en tv) (ha : at_ ≤ s.length) (hs : s.length ≤ 10000) :
  Calls Tryz.prog 37 #[.pointer (some ⟨g, 0, none⟩)] w fun e w' => e = .returned (.string (T (s.drop at_))) ∧ Below w.heap.size w w' := by
 have hd := drop_T s at_
 obtain ⟨⟨r0, r1, r2, r3, r4, r5, r6⟩, _⟩ := h.reads
 have hsz : (T s).size = s.length := T_size s
 have i0 : (0 : Int) ≤ (at_ : Int) := by omega
 have i1 : (at_ : Int) ≤ ((T s).size : Int) := by rw [hsz]; omega
 have i2 : (at_ : Int) ≤ (s.length : Int) := by omega
 have HB := lh (fun (n : Nat) => show Below w.heap.size w (w.drewN n) from below_drewN w n)
 clear h
 go_enter Tryz.func37, Tryz.ntmps37
 go_upto_region 1 with fail
 go_quiet (fail)
 go_wp2_with fail
 go_ret
 exact ⟨rfl, HB.out _⟩
theorem index_tail (a : List UInt8) (c : UInt8) : Go.Lib.indexByte a c = -1 ∨ 0 ≤ Go.Lib.indexByte a c := by
 have := Go.Lib.indexByte_ge a c
 omega
/-- A text begins with a byte that does not end a word. -/
def Lx.ord (r : List UInt8) : Bool := match r with | [] => false | c :: _ => !Lx.special c && !Go.Lib.hasPrefix r [92, 10]
theorem ordinary_any (g : Nat) (s : List UInt8) (at_ en : Nat) (tv : Value) (w : World) (h : ScRow w g s at_ en tv) (ha : at_ ≤ s.length) (hs : s.length ≤ 10000) :
  Calls Tryz.prog 150 #[.pointer (some ⟨g, 0, none⟩)] w fun e w' => e = .returned (.bool (Lx.ord (s.drop at_))) ∧ Below w.heap.size w w' := by
 have HR := lh (rest_any g s at_ en tv w h ha hs)
 have HI := lh (fun (c : UInt8) (W : World) => show Calls Tryz.prog 38 #[.string (T [32, 9, 10, 59, 38, 124, 40, 41, 123, 125, 60, 62, 61, 94, 96, 36, 39]), .int .u8 (c.toNat : Int)] W fun e w' => e = .returned (.int .i64 (Lib.indexByte Lx.specials c)) ∧ w' = W from by
  have := strings_IndexByte (T Lx.specials) (c.toNat : Int) W
  rw [show ((c.toNat : Int)).toNat.toUInt8 = c from by simp] at this
  exact this)
 have HP := lh (fun (r : List UInt8) (W : World) => show Calls Tryz.prog 40 #[.string (T r), .string (T [92, 10])] W fun e w' => e = .returned (.bool (Lib.hasPrefix r [92, 10])) ∧ w' = W from strings_HasPrefix (T r) (T [92, 10]) W)
 clear h
 generalize s.drop at_ = r at *
 cases r with
 | nil =>
  go_enter Tryz.func150, Tryz.ntmps150
  go_wp2_with fail
  (with_reducible refine HR.out.mono ?_); rintro e w1 ⟨rfl, b1⟩
  have HB := lh b1
  clear b1
  go_wp2_with fail
  go_ret
  exact ⟨rfl, HB.out⟩
 | cons c t =>
  have hx := Lx.index_lt Lx.specials c
  have hg : ∀ h, (T (c :: t))[0]'h = c := fun _ => rfl
  have HIc := lh (HI.out c)
  have HPc := lh (HP.out (c :: t))
  have HF := lh (show Lx.ord (c :: t) = (!Lx.special c && !Lib.hasPrefix (c :: t) [92, 10]) from rfl)
  have hsc : Lx.special c = Lx.specials.contains c := rfl
  rw [← hsc] at hx
  clear HI HP hsc
  generalize Lib.indexByte Lx.specials c = ix at *
  generalize Lib.hasPrefix (c :: t) [92, 10] = hp at *
  have h0 : ((T (c :: t)).size : Int) = (t.length : Int) + 1 := by rw [T_size]; simp
  generalize Lx.special c = sp at *
  cases sp with
  | true =>
   have hx2 : decide (ix < 0) = false := hx
   clear hx
   go_enter Tryz.func150, Tryz.ntmps150
   go_wp2_with fail
   (with_reducible refine HR.out.mono ?_); rintro e w1 ⟨rfl, b1⟩
   have HB := lh b1
   clear b1
   go_wp2_with fail
   (with_reducible refine (HIc.out _).mono ?_); rintro e w2 ⟨rfl, rfl⟩
   go_wp2_with fail
   go_ret
   exact ⟨by rw [HF.out]; rfl, HB.out⟩
  | false =>
   have hx2 : ix < 0 := of_decide_eq_true hx
   clear hx
   go_enter Tryz.func150, Tryz.ntmps150
   go_wp2_with fail
   (with_reducible refine HR.out.mono ?_); rintro e w1 ⟨rfl, b1⟩
   have HB := lh b1
   clear b1
   go_wp2_with fail
   (with_reducible refine (HIc.out _).mono ?_); rintro e w2 ⟨rfl, rfl⟩
   go_wp2_with fail
   (with_reducible refine (HPc.out _).mono ?_); rintro e w3 ⟨rfl, rfl⟩
   go_wp2_with fail
   go_ret
   exact ⟨by rw [HF.out]; cases hp <;> rfl, HB.out⟩
/-- A program's text from here on begins with a blank. -/
theorem hasPrefix_cons (c : UInt8) (t : List UInt8) (d : UInt8) : Go.Lib.hasPrefix (c :: t) [d] = (c == d) := by
 unfold Go.Lib.hasPrefix
 by_cases h : c = d
 ·subst h; simp [List.isPrefixOf]
 ·have e1 : (c == d) = false := by simpa using h
  have e2 : (d == c) = false := by simpa using fun e => h e.symm
  simp [List.isPrefixOf, e1, e2]
theorem below_grownBy {w w' : World} (h : Below w.heap.size w w') (row : Option Nat) : w.grownBy w' row := ⟨h.os, h.tape, h.output, h.size, fun k hk _ => h.block k hk⟩
theorem grown_setG {W W' : World} {p : Nat} (h : W.grownBy W' (some p)) (o : Nat) (u : Value) : W.grownBy (W'.setCell ⟨p, o, none⟩ u) (some p) :=
 ⟨h.os, h.tape, h.output, by simpa using h.size, fun i hi hn => by rw [Below.heap_setCell _ _ _ _ (fun e => hn (by rw [e]))]; exact h.block i hi hn⟩
/-- What follows is no blank. -/
def Lx.free (r : List UInt8) : Prop := Go.Lib.hasPrefix r [32] = false ∧ Go.Lib.hasPrefix r [9] = false ∧ Go.Lib.hasPrefix r [92, 10] = false
theorem hp_any (r p : List UInt8) (W : World) : Calls Tryz.prog 40 #[.string (T r), .string (T p)] W fun e w' => e = .returned (.bool (Lib.hasPrefix r p)) ∧ w' = W := strings_HasPrefix (T r) (T p) W
theorem blanks_none (g : Nat) (s : List UInt8) (at_ en : Nat) (tv : Value) (w : World) (h : ScRow w g s at_ en tv) (ha : at_ ≤ s.length) (hs : s.length ≤ 10000) (hf : Lx.free (s.drop at_)) :
  Calls Tryz.prog 36 #[.pointer (some ⟨g, 0, none⟩)] w fun e w' => e = .returned (.tuple #[]) ∧ Below w.heap.size w w' := by
 have HR := lh (rest_any g s at_ en tv w h ha hs)
 have HP := lh (fun (W : World) => hp_any (s.drop at_) [32] W)
 have HQ := lh (fun (W : World) => hp_any (s.drop at_) [9] W)
 have HE := lh (fun (W : World) => hp_any (s.drop at_) [92, 10] W)
 rw [hf.1] at HP
 rw [hf.2.1] at HQ
 rw [hf.2.2] at HE
 clear h hf
 generalize s.drop at_ = r at *
 go_enter Tryz.func36, Tryz.ntmps36
 go_wp2_with fail
 refine wp_loop_rounds 1 ?_
 rw [rounds_succ]
 go_wp2_with fail
 (with_reducible refine HR.out.mono ?_); rintro e w1 ⟨rfl, b1⟩
 have HB := lh b1
 clear b1
 go_wp2_with fail
 (with_reducible refine (HP.out _).mono ?_); rintro e w2 ⟨rfl, rfl⟩
 go_wp2_with fail
 (with_reducible refine (HQ.out _).mono ?_); rintro e w2 ⟨rfl, rfl⟩
 go_wp2_with fail
 (with_reducible refine (HE.out _).mono ?_); rintro e w2 ⟨rfl, rfl⟩
 go_wp2_with fail
 refine bodyPost_ret (results_none rfl _ _ _) rfl ?_
 exact ⟨rfl, HB.out⟩
theorem blanks_one (g : Nat) (s : List UInt8) (at_ en : Nat) (tv : Value) (w : World) (h : ScRow w g s at_ en tv) (ha : at_ + 1 ≤ s.length) (hs : s.length ≤ 10000) (h1 : Go.Lib.hasPrefix (s.drop at_) [32] = true) (hf : Lx.free (s.drop (at_ + 1))) :
  Calls Tryz.prog 36 #[.pointer (some ⟨g, 0, none⟩)] w fun e w' => e = .returned (.tuple #[]) ∧ ScRow w' g s (at_ + 1) en tv ∧ w.grownBy w' (some g) := by
 have HR := lh (rest_any g s at_ en tv w h (by omega) hs)
 have HR2 := lh (fun (W : World) (h : ScRow W g s (at_ + 1) en tv) => rest_any g s (at_ + 1) en tv W h ha hs)
 have HP1 := lh (fun (W : World) => hp_any (s.drop at_) [32] W)
 have HP := lh (fun (W : World) => hp_any (s.drop (at_ + 1)) [32] W)
 have HQ := lh (fun (W : World) => hp_any (s.drop (at_ + 1)) [9] W)
 have HE := lh (fun (W : World) => hp_any (s.drop (at_ + 1)) [92, 10] W)
 rw [h1] at HP1
 rw [hf.1] at HP
 rw [hf.2.1] at HQ
 rw [hf.2.2] at HE
 have HS := lh h
 have hc1 : ((at_ + 1 : Nat) : Int) = (at_ : Int) + 1 := by omega
 clear h hf h1
 generalize s.drop at_ = r at *
 generalize s.drop (at_ + 1) = r2 at *
 go_enter Tryz.func36, Tryz.ntmps36
 go_wp2_with fail
 refine wp_loop_rounds 2 ?_
 rw [rounds_succ]
 go_wp2_with fail
 (with_reducible refine HR.out.mono ?_); rintro e w1 ⟨rfl, b1⟩
 have HS1 := lh (HS.out.next b1)
 have HG1 := lh (below_grownBy b1 (some g))
 clear b1
 go_wp2_with fail
 (with_reducible refine (HP1.out _).mono ?_); rintro e w2 ⟨rfl, rfl⟩
 obtain ⟨⟨r0, r1, _⟩, f1, _⟩ := HS1.out.reads
 go_wp2_with fail
 have hset := HS1.out.setAt (at_ + 1)
 rw [hc1] at hset
 have HS2 := lh hset
 have HG2 := lh (grown_setG HG1.out 1 (.int .i64 ((at_ : Int) + 1)))
 clear hset r0 r1 f1
 generalize World.setCell _ _ _ = w3 at *
 rw [rounds_succ]
 go_wp2_with fail
 (with_reducible refine (HR2.out _ HS2.out).mono ?_); rintro e w4 ⟨rfl, b4⟩
 have HS4 := lh (HS2.out.next b4)
 have HG4 := lh (HG2.out.trans (below_grownBy b4 (some g)))
 clear b4
 go_wp2_with fail
 (with_reducible refine (HP.out _).mono ?_); rintro e w5 ⟨rfl, rfl⟩
 go_wp2_with fail
 (with_reducible refine (HQ.out _).mono ?_); rintro e w5 ⟨rfl, rfl⟩
 go_wp2_with fail
 (with_reducible refine (HE.out _).mono ?_); rintro e w5 ⟨rfl, rfl⟩
 go_wp2_with fail
 refine bodyPost_ret (results_none rfl _ _ _) rfl ?_
 exact ⟨rfl, HS4.out, HG4.out⟩
abbrev IsB (B b : Nat) (l : List UInt8) (w : World) : Prop := Lib.IsBuilder 154 5 B b (Lib.byteCells l) w
theorem isb_new (w : World) : IsB w.heap.size w.heap.size [] (w.alloc (.cells #[.pointer none, .slice none 0 0] 154)) := Lib.fresh_isBuilder 154 5 w
theorem wb_any (B b : Nat) (l : List UInt8) (c : UInt8) (z : Int) (hz : z = (c.toNat : Int)) (w : World) (h : IsB B b l w) (hlen : l.length ≤ 1099511627776) (hBw : B ≤ w.heap.size) :
  Calls Tryz.prog 151 #[.pointer (some ⟨b, 0, none⟩), .int .u8 z] w fun e w' => e = .returned .nilIface ∧ (IsB B b (l ++ [c]) w' ∧ Below B w w') := by
 refine (wbyte_any B b (Lib.byteCells l) z w h (by rw [Lib.byteCells_length]; omega) hBw).mono ?_
 rintro e w' ⟨he, h1, h2⟩
 refine ⟨he, ?_, h2⟩
 unfold IsB
 rw [Lib.byteCells_append]
 subst hz
 exact h1
theorem ws_any (B b : Nat) (l p : List UInt8) (w : World) (h : IsB B b l w) (hlen : l.length + p.length ≤ 1099511627776) (hBw : B ≤ w.heap.size) :
  Calls Tryz.prog 105 #[.pointer (some ⟨b, 0, none⟩), .string (T p)] w fun e w' => e = .returned (.tuple #[.int .i64 (p.length : Int), .nilIface]) ∧ (IsB B b (l ++ p) w' ∧ Below B w w') := by
 have hsz : (T p).size = p.length := T_size p
 refine (wstring_any B b (Lib.byteCells l) (T p) w h (by rw [Lib.byteCells_length, hsz]; omega) hBw).mono ?_
 rintro e w' ⟨he, h1, h2⟩
 refine ⟨by rw [he, hsz], ?_, h2⟩
 unfold IsB
 rw [Lib.byteCells_append]
 exact h1
theorem bstr_any (B b : Nat) (l : List UInt8) (w : World) (h : IsB B b l w) (hBw : B ≤ w.heap.size) :
  Calls Tryz.prog 107 #[.pointer (some ⟨b, 0, none⟩)] w fun e w' => e = .returned (.string (T l)) ∧ Below B w w' := Builder_String_any B b l w h hBw
theorem grown_belowB {w W W' : World} {g B : Nat} (hg : w.grownBy W (some g)) (hb : Below B W W') (hB : w.heap.size ≤ B) : w.grownBy W' (some g) :=
 ⟨hb.os.trans hg.os, hb.tape.trans hg.tape, hb.output.trans hg.output, Nat.le_trans hg.size hb.size, fun i hi hn => (hb.block i (Nat.lt_of_lt_of_le hi hB)).trans (hg.block i hi hn)⟩
theorem ScRow.belowB {w w' : World} {g B : Nat} {s : List UInt8} {at_ en : Nat} {tv : Value} (h : ScRow w g s at_ en tv) (hb : Below B w w') (hg : g < B) : ScRow w' g s at_ en tv := (hb.block _ hg).trans h
theorem IsB.far {B b : Nat} {l : List UInt8} {w w' : World} {g : Nat} (h : IsB B b l w) (hg : w.grownBy w' (some g)) (hlt : g < B) : IsB B b l w' := by
 have one : ∀ p, Lib.BuilderAt 154 5 B b p (Lib.byteCells l) w → Lib.BuilderAt 154 5 B b p (Lib.byteCells l) w' := by
  intro p hp
  obtain ⟨hB, v, hbk, hown, hne⟩ := hp
  have h1 : b ≠ g := by intro e; omega
  refine ⟨hB, v, (hg.block b (row_ltP hbk) (fun e => h1 (Option.some.inj e))).trans hbk, hown.kept hg ?_, hne⟩
  rcases hown.2 with ⟨hv, _⟩ | ⟨k, cap, cur, hv, hk, _⟩
  ·exact .inl (by rw [hv]; rfl)
  ·refine .inr ?_
   have h2 : k ≠ g := by intro e; omega
   rw [hv]
   intro e
   exact h2 (Option.some.inj e)
 rcases h with h | h
 ·exact .inl (one _ h)
 ·exact .inr (one _ h)
/-- The state ahead of a round: 'u' is written, 'v'' is to come. -/
def QS (w0 : World) (g B : Nat) (s v tl : List UInt8) (en : Nat) (tv : Value) (k : Nat) (W : World) : Prop :=
 ∃ u v' at', v = u ++ v' ∧ s.drop at' = Lx.esc v' ++ 39 :: tl ∧ ScRow W g s at' en tv ∧ IsB B B u W ∧ w0.grownBy W (some g) ∧ B ≤ W.heap.size ∧ k = s.length - at' ∧ at' ≤ s.length
theorem slice_T (s : List UInt8) (a n : Nat) (r p : List UInt8) (h : s.drop a = p ++ r) (hn : n = a + p.length) : (T s).extract a n = T p := by
 rw [extract_TP, T_list, h, hn, show a + p.length - a = p.length from by omega, List.take_left]
theorem drop_of (s : List UInt8) (a : Nat) (p r : List UInt8) (h : s.drop a = p ++ r) : s.drop (a + p.length) = r := by
 rw [← List.drop_drop, h, List.drop_left]
theorem drop_len (s : List UInt8) (a : Nat) (p r : List UInt8) (h : s.drop a = p ++ r) (hr : 0 < (p ++ r).length) : a + p.length + r.length = s.length := by
 have := congrArg List.length h
 rw [List.length_drop, List.length_append] at this
 rw [List.length_append] at hr
 omega
theorem le_esc : ∀ (s : List UInt8), s.length ≤ (Lx.esc s).length
 | [] => by simp [Lx.esc]
 | c :: s => by
  have := le_esc s
  rw [Lx.esc]
  split <;> simp <;> omega
theorem below_drew1 (w : World) : Below w.heap.size w w.drew := ⟨rfl, rfl, rfl, Nat.le_refl _, fun _ _ => rfl⟩
theorem cell_below {w w' : World} {B p o : Nat} {v : Value} (hb : Below B w w') (hp : p < B) (h : w.cell? ⟨p, o, none⟩ = some v) : w'.cell? ⟨p, o, none⟩ = some v := by
 have := hb.block p hp
 unfold World.cell? at h ⊢
 rw [this]
 exact h
theorem quote_split (v tl : List UInt8) : ∃ p r, Lx.esc v ++ 39 :: tl = p ++ 39 :: r ∧ 39 ∉ p ∧ ((r = tl ∧ v = p) ∨ ∃ b, v = p ++ 39 :: b ∧ r = 39 :: (Lx.esc b ++ 39 :: tl)) := by
 rcases Lx.first_quote v with h | ⟨a, b, rfl, h⟩
 ·exact ⟨v, tl, by rw [Lx.esc_none v h], h, .inl ⟨rfl, rfl⟩⟩
 ·refine ⟨a, 39 :: (Lx.esc b ++ 39 :: tl), ?_, h, .inr ⟨b, rfl, rfl⟩⟩
  rw [Lx.esc_cut a b h]
  simp
theorem index_at (p r : List UInt8) (h : 39 ∉ p) (W : World) : Calls Tryz.prog 38 #[.string (T (p ++ 39 :: r)), .int .u8 39] W fun e w' => e = .returned (.int .i64 (p.length : Int)) ∧ w' = W := by
 have := strings_IndexByte (T (p ++ 39 :: r)) 39 W
 rw [T_list, show ((39 : Int)).toNat.toUInt8 = (39 : UInt8) from rfl, Lx.index_quote p r h] at this
 exact this
theorem quoted_any (g : Nat) (s v tl : List UInt8) (at_ en : Nat) (tv : Value) (w : World) (h : ScRow w g s at_ en tv) (hs : s.length ≤ 10000) (hd : s.drop at_ = 39 :: (Lx.esc v ++ 39 :: tl)) (htl : Go.Lib.hasPrefix tl [39] = false) :
  Calls Tryz.prog 152 #[.pointer (some ⟨g, 0, none⟩)] w fun e w' => e = .returned (.tuple #[.string (T v), .bool true]) ∧ ScRow w' g s (s.length - tl.length) en tv ∧ w.grownBy w' (some g) := by
 have hgl := row_ltP h
 have hal : at_ + 1 ≤ s.length := by
  have := congrArg List.length hd
  simp at this
  omega
 have hd2 : s.drop (at_ + 1) = Lx.esc v ++ 39 :: tl := drop_of s at_ [39] _ hd
 obtain ⟨⟨r0, r1, _⟩, f1, _⟩ := h.reads
 have hc1 : ((at_ + 1 : Nat) : Int) = (at_ : Int) + 1 := by omega
 have hset := h.setAt (at_ + 1)
 rw [hc1] at hset
 have i0 : (at_ : Int) ≤ 10000 := by omega
 have HS := lh hset
 have HG := lh (grown_setG (below_grownBy (Below.refl w.heap.size w) (some g)) 1 (.int .i64 ((at_ : Int) + 1)))
 have A := lh (And.intro hs (And.intro hd2 (And.intro htl hal)))
 clear h hs hd hd2 htl hset hal
 go_enter Tryz.func152, Tryz.ntmps152
 go_wp2_with fail
 have HI0 := lh (show IsB w.heap.size w.heap.size [] ((w.setCell ⟨g, 1, none⟩ (.int .i64 ((at_ : Int) + 1))).alloc (.cells #[.pointer none, .slice none 0 0] 154)) from by
  have := isb_new (w.setCell ⟨g, 1, none⟩ (.int .i64 ((at_ : Int) + 1)))
  simpa using this)
 have HB0 := lh (show Below w.heap.size (w.setCell ⟨g, 1, none⟩ (.int .i64 ((at_ : Int) + 1))) ((w.setCell ⟨g, 1, none⟩ (.int .i64 ((at_ : Int) + 1))).alloc (.cells #[.pointer none, .slice none 0 0] 154)) from by
  have := (Below.refl (w.setCell ⟨g, 1, none⟩ (.int .i64 ((at_ : Int) + 1))).heap.size (w.setCell ⟨g, 1, none⟩ (.int .i64 ((at_ : Int) + 1)))).alloc (Nat.le_refl _) (.cells #[.pointer none, .slice none 0 0] 154)
  simpa using this)
 have HG0 := lh (show w.grownBy ((w.setCell ⟨g, 1, none⟩ (.int .i64 ((at_ : Int) + 1))).alloc (.cells #[.pointer none, .slice none 0 0] 154)) (some g) from grown_belowB HG.out HB0.out (by simp))
 have HS0 := lh (HS.out.belowB HB0.out hgl)
 generalize World.alloc _ _ = w1 at *
 clear HB0 HS HG r0 r1 f1
 go_loopg [] (s.length - (at_ + 1)) (fun k W => QS w g w.heap.size s v tl en tv k W)
 case atStart =>
  exact ⟨[], v, at_ + 1, rfl, A.out.2.1, HS0.out, HI0.out, HG0.out, HG0.out.size, rfl, A.out.2.2.2⟩
 case round =>
  obtain ⟨u, v', at', hv, hd, hsr, hib, hgr, hbs, hk, hle⟩ := hrel
  obtain ⟨p, r, hpr, hp39, hcase⟩ := quote_split v' tl
  rw [hpr] at hd
  have hl1 : at' + p.length + 1 ≤ s.length := by
   have := congrArg List.length hd
   simp at this
   omega
  have hd1 : s.drop (at' + p.length) = 39 :: r := drop_of s at' p _ hd
  have hd2 : s.drop (at' + p.length + 1) = r := drop_of s (at' + p.length) [39] _ hd1
  have hs := A.out.1
  have HR := lh (rest_any g s at' en tv wr hsr hle hs)
  rw [hd] at HR
  have HIX := lh (fun (W : World) => index_at p r hp39 W)
  have hex := slice_T s at' (at' + p.length) (39 :: r) p hd rfl
  have HR2 := lh (fun (W : World) (h : ScRow W g s (at' + p.length + 1) en tv) => rest_any g s (at' + p.length + 1) en tv W h hl1 hs)
  rw [hd2] at HR2
  have HPX := lh (fun (W : World) => hp_any r [39] W)
  have hux : u.length + p.length ≤ 1099511627776 := by
   have e1 := congrArg List.length A.out.2.1
   have e2 := le_esc v
   rw [List.length_drop, List.length_append] at e1
   rw [hv, List.length_append] at e2
   rw [hv] at e1
   omega
  have hex2 : (T s).extract at' ((at' : Int) + (p.length : Int)).toNat = T p := by rw [← hex]; rfl
  have HUX := lh hux
  have HWS := lh (fun (W : World) (hi : IsB w.heap.size w.heap.size u W) (hB : w.heap.size ≤ W.heap.size) => show Calls Tryz.prog 105 #[.pointer (some ⟨w.heap.size, 0, none⟩), .string ((T s).extract at' ((at' : Int) + (p.length : Int)).toNat)] W fun e w' => e = .returned (.tuple #[.int .i64 (p.length : Int), .nilIface]) ∧ (IsB w.heap.size w.heap.size (u ++ p) w' ∧ Below w.heap.size W w') from by rw [hex2]; exact ws_any w.heap.size w.heap.size u p W hi hux hB)
  have HC := lh hcase
  have HSR := lh hsr
  have HIB := lh hib
  have HGR := lh hgr
  have HV := lh (And.intro hv (And.intro hk (And.intro hd (And.intro hd1 hd2))))
  have hb1 : (at' : Int) + (p.length : Int) + 1 ≤ (s.length : Int) := by omega
  have hsz : (T s).size = s.length := T_size s
  have hb2 : (s.length : Int) ≤ 10000 := by omega
  have hb3 : (at' : Int) + (p.length : Int) ≤ (s.length : Int) := by omega
  have hw1 : IntKind.i64.wrap ((at' : Int) + (p.length : Int)) = (at' : Int) + (p.length : Int) := IntWalk.i64_in _ (by omega)
  have hw2 : IntKind.i64.wrap ((p.length : Int) + 1) = (p.length : Int) + 1 := IntWalk.i64_in _ (by omega)
  have hw3 : IntKind.i64.wrap ((at' : Int) + ((p.length : Int) + 1)) = (at' : Int) + ((p.length : Int) + 1) := IntWalk.i64_in _ (by omega)
  have hb4 : (0 : Int) ≤ (at' : Int) := by omega
  have hb5 : (0 : Int) ≤ (at' : Int) + (p.length : Int) := by omega
  have hb6 : (at' : Int) ≤ (at' : Int) + (p.length : Int) := by omega
  have hb7 : (at' : Int) + (p.length : Int) ≤ ((T s).size : Int) := by rw [T_size]; exact hb3
  have hb8 : (at' : Int) ≤ ((T s).size : Int) := by rw [T_size]; omega
  clear hcase hsr hib hgr hv hk hd hd1 hd2 hpr hp39 hux hs hex hex2
  go_wp2_with fail
  (with_reducible refine HR.out.mono ?_); rintro e w2 ⟨rfl, b2⟩
  have HS2 := lh (HSR.out.next b2)
  have HG2 := lh (HGR.out.trans (below_grownBy b2 (some g)))
  have HI2 := lh (HIB.out.far (below_grownBy b2 (some g)) hgl)
  have hBw2 : w.heap.size ≤ w2.heap.size := HG2.out.size
  clear b2
  go_wp2_with fail
  (with_reducible refine (HIX.out _).mono ?_); rintro e w3 ⟨rfl, rfl⟩
  obtain ⟨⟨c0, c1, _⟩, f1, _⟩ := HS2.out.reads
  go_wp2_with fail
  have HSD := lh (HS2.out.next (below_drew1 w3))
  have HGD := lh (HG2.out.trans (below_grownBy (below_drew1 w3) (some g)))
  have HID := lh (HI2.out.far (below_grownBy (below_drew1 w3) (some g)) hgl)
  have hBD : w.heap.size ≤ w3.drew.heap.size := hBw2
  go_region_held3 (fun W' => W'.cell? ⟨g, 0, none⟩ = some (.string (T s)) ∧ W'.cell? ⟨g, 1, none⟩ = some (.int .i64 (at' : Int))) (first | (with_reducible assumption) | (exact ⟨c0, c1⟩) | (exact ⟨cell_below hB4 hgl c0, cell_below hB4 hgl c1⟩)) (first | (go_at_call 105; (with_reducible refine (HWS.out _ HID.out hBD).mono ?_); rintro e w4 ⟨rfl, hi4, hB4⟩))
  have HS4 := lh (HSD.out.belowB hB4 hgl)
  have HG4 := lh (grown_belowB HGD.out hB4 (Nat.le_refl _))
  have HI4 := lh hi4
  clear hi4 hB4 c0 c1 f1 HSD HGD HID HS2 HG2 HI2 hBw2 hBD HWS HR HIX
  clear HSR HIB HGR
  obtain ⟨⟨c0, c1, _⟩, f1, _⟩ := HS4.out.reads
  go_wp2_with fail
  have hset := HS4.out.setAt (at' + p.length + 1)
  rw [show ((at' + p.length + 1 : Nat) : Int) = (at' : Int) + ((p.length : Int) + 1) from by omega] at hset
  have HS5 := lh hset
  have HG5 := lh (grown_setG HG4.out 1 (.int .i64 ((at' : Int) + ((p.length : Int) + 1))))
  have HI5 := lh (HI4.out.far (grown_setG (below_grownBy (Below.refl w4.heap.size w4) (some g)) 1 (.int .i64 ((at' : Int) + ((p.length : Int) + 1)))) hgl)
  clear hset c0 c1 f1 HS4 HG4 HI4
  generalize World.setCell _ _ _ = w5 at *
  (with_reducible refine (HR2.out _ HS5.out).mono ?_); rintro e w6 ⟨rfl, b6⟩
  have HS6 := lh (HS5.out.next b6)
  have HG6 := lh (HG5.out.trans (below_grownBy b6 (some g)))
  have HI6 := lh (HI5.out.far (below_grownBy b6 (some g)) hgl)
  have hBw6 : w.heap.size ≤ w6.heap.size := HG6.out.size
  clear b6 HS5 HG5 HI5 HR2
  have HP7 : RowKit.Hid (((r = tl ∧ v' = p) ∧ Lib.hasPrefix r [39] = false) ∨ ((∃ b, v' = p ++ 39 :: b ∧ r = 39 :: (Lx.esc b ++ 39 :: tl)) ∧ Lib.hasPrefix r [39] = true)) := by
   apply lh
   rcases HC.out with ⟨h1, h2⟩ | ⟨b, h1, h2⟩
   ·exact .inl ⟨⟨h1, h2⟩, by rw [h1]; exact A.out.2.2.1⟩
   ·refine .inr ⟨⟨b, h1, h2⟩, ?_⟩
    rw [h2, hasPrefix_cons]; rfl
  clear HC
  rcases HP7.out with ⟨hc, hq⟩ | ⟨hc, hq⟩
  ·have HC := lh hc
   rw [hq] at HPX
   clear hc hq HP7
   go_wp2_with fail
   (with_reducible refine (HPX.out _).mono ?_); rintro e w7 ⟨rfl, rfl⟩
   have HBS := lh (bstr_any w.heap.size w.heap.size (u ++ p) w7 HI6.out hBw6)
   go_wp2_with fail
   (with_reducible refine HBS.out.mono ?_); rintro e w8 ⟨rfl, b8⟩
   have HS8 := lh (HS6.out.belowB b8 hgl)
   have HG8 := lh (grown_belowB HG6.out b8 (Nat.le_refl _))
   clear b8
   go_wp2_with fail
   go_ret2
   obtain ⟨hv, hk, hd, hd1, hd2⟩ := HV.out
   obtain ⟨h1, h2⟩ := HC.out
   refine ⟨by rw [hv, h2]; rfl, ?_, HG8.out⟩
   have e1 : s.length - tl.length = at' + p.length + 1 := by
    have := congrArg List.length hd2
    rw [List.length_drop, h1] at this
    omega
   rw [e1]
   exact HS8.out
  ·have HC := lh hc
   rw [hq] at HPX
   clear hc hq HP7
   go_wp2_with fail
   (with_reducible refine (HPX.out _).mono ?_); rintro e w7 ⟨rfl, rfl⟩
   go_wp2_with fail
   have hlen : (u ++ p).length ≤ 1099511627776 := by rw [List.length_append]; exact HUX.out
   (with_reducible refine (wb_any w.heap.size w.heap.size (u ++ p) 39 39 rfl w7 HI6.out hlen hBw6).mono ?_); rintro e w8 ⟨rfl, hi8, b8⟩
   have HS8 := lh (HS6.out.belowB b8 hgl)
   have HG8 := lh (grown_belowB HG6.out b8 (Nat.le_refl _))
   have HI8 := lh hi8
   obtain ⟨⟨c0, c1, _⟩, f1, _⟩ := HS8.out.reads
   obtain ⟨b, hvb, hrb⟩ := HC.out
   have hl2 : at' + p.length + 2 ≤ s.length := by
    have := congrArg List.length HV.out.2.2.2.2
    rw [List.length_drop, hrb] at this
    simp at this
    omega
   have c1' : w8.cell? ⟨g, 1, none⟩ = some (.int .i64 ((at' : Int) + ((p.length : Int) + 1))) := by
    rw [c1]; rfl
   have hw4 : IntKind.i64.wrap ((at' : Int) + ((p.length : Int) + 1) + 1) = (at' : Int) + ((p.length : Int) + 1) + 1 := IntWalk.i64_in _ (by omega)
   clear hi8 b8 c1 HS6 HG6 HI6 hBw6
   go_wp2_with fail
   obtain ⟨hv, hk, hd, hd1, hd2⟩ := HV.out
   go_roundg (s.length - (at' + p.length + 2))
   case measure => omega
   case rel =>
    refine ⟨u ++ p ++ [39], b, at' + p.length + 2, ?_, ?_, ?_, ?_, ?_, ?_, rfl, hl2⟩
    ·rw [hv, hvb]; simp
    ·exact drop_of s (at' + p.length + 1) [39] _ (hd2.trans hrb)
    ·have := HS8.out.setAt (at' + p.length + 2)
     rw [show ((at' + p.length + 2 : Nat) : Int) = (at' : Int) + ((p.length : Int) + 1) + 1 from by omega] at this
     exact this
    ·exact HI8.out.far (grown_setG (below_grownBy (Below.refl w8.heap.size w8) (some g)) 1 _) hgl
    ·exact grown_setG HG8.out 1 _
    ·simpa using HG8.out.size
end Go.Proofs.YtfibaopngpfmjaaGreatDoor
