/- The scanner of the shell's programs: its state in memory, and what rest, ordinary and blanks return. Conditions: a program of at most 10000 bytes. -/
import Derived.Test.YtfibaopngpfmjaaGreatDoorPBuild
import Derived.Test.YtfibaopngpfmjaaGreatDoorLxMath
import Derived.Deep.Onto
set_option linter.unusedVariables false
set_option linter.unusedSimpArgs false
namespace Go.Proofs.YtfibaopngpfmjaaGreatDoor
open Go.RowKit
theorem row_ltP {w : World} {p : Nat} {o : Obj} (h : w.heap[p]? = some o) : p < w.heap.size := by
  rcases Nat.lt_or_ge p w.heap.size with h2 | h2
  · exact h2
  · rw [Array.getElem?_eq_none h2] at h; cases h
theorem extract_TP (s : ByteArray) (a b : Nat) : s.extract a b = T ((s.data.toList.drop a).take (b - a)) := by
  apply ByteArray.ext
  apply Array.ext'
  simp
theorem drop_T (s : List UInt8) (a : Nat) : (T s).extract a s.length = T (s.drop a) := by
  rw [extract_TP, T_list]
  congr 1
  rw [List.take_of_length_le (by rw [List.length_drop]; exact Nat.le_refl _)]
/-- A token of the scanner. -/
structure Tok where
  kind : Int
  pos : Nat
  text : List UInt8
  quoted : List UInt8
def tokv (t : Tok) : List Value := [.int .i64 t.kind, .int .i64 (t.pos : Int), .string (T t.text), .string (T t.quoted)]
def toks (l : List Tok) : List Value := l.flatMap tokv
/-- The scanner's block. -/
def ScRow (w : World) (g : Nat) (s : List UInt8) (at_ en : Nat) (tv : Value) : Prop :=
  w.heap[g]? = some (.cells #[.string (T s), .int .i64 (at_ : Int), tv, .slice none 0 0, .int .i64 (en : Int), .int .i64 0, .int .i64 0] 95 (0, 0))
theorem ScRow.reads {w : World} {g : Nat} {s : List UInt8} {at_ en : Nat} {tv : Value} (h : ScRow w g s at_ en tv) :
    (w.cell? ⟨g, 0, none⟩ = some (.string (T s)) ∧ w.cell? ⟨g, 1, none⟩ = some (.int .i64 (at_ : Int)) ∧ w.cell? ⟨g, 2, none⟩ = some tv ∧ w.cell? ⟨g, 3, none⟩ = some (.slice none 0 0) ∧ w.cell? ⟨g, 4, none⟩ = some (.int .i64 (en : Int)) ∧ w.cell? ⟨g, 5, none⟩ = some (.int .i64 0) ∧ w.cell? ⟨g, 6, none⟩ = some (.int .i64 0)) ∧
    (w.frozen? ⟨g, 1, none⟩ = false ∧ w.frozen? ⟨g, 2, none⟩ = false ∧ w.frozen? ⟨g, 4, none⟩ = false) := by
  unfold ScRow at h
  refine ⟨⟨?_, ?_, ?_, ?_, ?_, ?_, ?_⟩, ?_, ?_, ?_⟩
  all_goals first
    | (rw [Lib.cell_of_heap h]; rfl)
    | (exact Lib.frozen_of_heap h _)
theorem ScRow.next {w w' : World} {g : Nat} {s : List UInt8} {at_ en : Nat} {tv : Value} (h : ScRow w g s at_ en tv) (hb : Below w.heap.size w w') : ScRow w' g s at_ en tv :=
  (hb.block _ (row_ltP h)).trans h
theorem ScRow.setAt {w : World} {g : Nat} {s : List UInt8} {at_ en : Nat} {tv : Value} (h : ScRow w g s at_ en tv) (n : Nat) : ScRow (w.setCell ⟨g, 1, none⟩ (.int .i64 (n : Int))) g s n en tv :=
  heap_setCell_same w g 1 _ _ (.int .i64 (n : Int)) h
theorem below_drewN (w : World) (n : Nat) : Below w.heap.size w (w.drewN n) := ⟨rfl, rfl, rfl, Nat.le_refl _, fun _ _ => rfl⟩
set_option maxHeartbeats 2000000 in
theorem rest_any (g : Nat) (s : List UInt8) (at_ en : Nat) (tv : Value) (w : World) (h : ScRow w g s at_ en tv) (ha : at_ ≤ s.length) (hs : s.length ≤ 10000) :
    Calls Tryz.prog 37 #[.pointer (some ⟨g, 0, none⟩)] w fun e w' => e = .returned (.string (T (s.drop at_))) ∧ Below w.heap.size w w' := by
  have hd := drop_T s at_
  obtain ⟨⟨r0, r1, r2, r3, r4, r5, r6⟩, _⟩ := h.reads
  have hsz : (T s).size = s.length := T_size s
  have i0 : (0 : Int) ≤ (at_ : Int) := by omega
  have i1 : (at_ : Int) ≤ ((T s).size : Int) := by rw [hsz]; omega
  have i2 : (at_ : Int) ≤ (s.length : Int) := by omega
  have HB := Lib.hid (fun (n : Nat) => show Below w.heap.size w (w.drewN n) from below_drewN w n)
  clear h
  go_enter Tryz.func37, Tryz.ntmps37
  go_upto_region 1 with fail
  go_quiet (fail)
  go_wp2_with fail
  go_ret
  exact ⟨rfl, HB.out _⟩
theorem index_tail (a : List UInt8) (c : UInt8) : Go.Lib.indexByte a c = -1 ∨ 0 ≤ Go.Lib.indexByte a c := by
  have := Go.Lib.indexByte_ge a c
  omega
/-- A text begins with a byte that does not end a word. -/
def Lx.ord (r : List UInt8) : Bool := match r with | [] => false | c :: _ => !Lx.special c && !Go.Lib.hasPrefix r [92, 10]
set_option maxHeartbeats 2000000 in
theorem ordinary_any (g : Nat) (s : List UInt8) (at_ en : Nat) (tv : Value) (w : World) (h : ScRow w g s at_ en tv) (ha : at_ ≤ s.length) (hs : s.length ≤ 10000) :
    Calls Tryz.prog 150 #[.pointer (some ⟨g, 0, none⟩)] w fun e w' => e = .returned (.bool (Lx.ord (s.drop at_))) ∧ Below w.heap.size w w' := by
  have HR := Lib.hid (rest_any g s at_ en tv w h ha hs)
  have HI := Lib.hid (fun (c : UInt8) (W : World) => show Calls Tryz.prog 38 #[.string (T [32, 9, 10, 59, 38, 124, 40, 41, 123, 125, 60, 62, 61, 94, 96, 36, 39]), .int .u8 (c.toNat : Int)] W fun e w' => e = .returned (.int .i64 (Lib.indexByte Lx.specials c)) ∧ w' = W from by
    have := strings_IndexByte (T Lx.specials) (c.toNat : Int) W
    rw [show ((c.toNat : Int)).toNat.toUInt8 = c from by simp] at this
    exact this)
  have HP := Lib.hid (fun (r : List UInt8) (W : World) => show Calls Tryz.prog 40 #[.string (T r), .string (T [92, 10])] W fun e w' => e = .returned (.bool (Lib.hasPrefix r [92, 10])) ∧ w' = W from strings_HasPrefix (T r) (T [92, 10]) W)
  clear h
  generalize s.drop at_ = r at *
  cases r with
  | nil =>
    go_enter Tryz.func150, Tryz.ntmps150
    go_wp2_with fail
    (with_reducible refine HR.out.mono ?_); rintro e w1 ⟨rfl, b1⟩
    have HB := Lib.hid b1
    clear b1
    go_wp2_with fail
    go_ret
    exact ⟨rfl, HB.out⟩
  | cons c t =>
    have hx := Lx.index_lt Lx.specials c
    have hg : ∀ h, (T (c :: t))[0]'h = c := fun _ => rfl
    have HIc := Lib.hid (HI.out c)
    have HPc := Lib.hid (HP.out (c :: t))
    have HF := Lib.hid (show Lx.ord (c :: t) = (!Lx.special c && !Lib.hasPrefix (c :: t) [92, 10]) from rfl)
    have hsc : Lx.special c = Lx.specials.contains c := rfl
    rw [← hsc] at hx
    clear HI HP hsc
    generalize Lib.indexByte Lx.specials c = ix at *
    generalize Lib.hasPrefix (c :: t) [92, 10] = hp at *
    have h0 : ((T (c :: t)).size : Int) = (t.length : Int) + 1 := by rw [T_size]; simp
    generalize Lx.special c = sp at *
    cases sp with
    | true =>
      have hx2 : decide (ix < 0) = false := hx
      clear hx
      go_enter Tryz.func150, Tryz.ntmps150
      go_wp2_with fail
      (with_reducible refine HR.out.mono ?_); rintro e w1 ⟨rfl, b1⟩
      have HB := Lib.hid b1
      clear b1
      go_wp2_with fail
      (with_reducible refine (HIc.out _).mono ?_); rintro e w2 ⟨rfl, rfl⟩
      go_wp2_with fail
      go_ret
      exact ⟨by rw [HF.out]; rfl, HB.out⟩
    | false =>
      have hx2 : ix < 0 := of_decide_eq_true hx
      clear hx
      go_enter Tryz.func150, Tryz.ntmps150
      go_wp2_with fail
      (with_reducible refine HR.out.mono ?_); rintro e w1 ⟨rfl, b1⟩
      have HB := Lib.hid b1
      clear b1
      go_wp2_with fail
      (with_reducible refine (HIc.out _).mono ?_); rintro e w2 ⟨rfl, rfl⟩
      go_wp2_with fail
      (with_reducible refine (HPc.out _).mono ?_); rintro e w3 ⟨rfl, rfl⟩
      go_wp2_with fail
      go_ret
      exact ⟨by rw [HF.out]; cases hp <;> rfl, HB.out⟩
/-- A program's text from here on begins with a blank. -/
theorem hasPrefix_cons (c : UInt8) (t : List UInt8) (d : UInt8) : Go.Lib.hasPrefix (c :: t) [d] = (c == d) := by
  unfold Go.Lib.hasPrefix
  by_cases h : c = d
  · subst h; simp [List.isPrefixOf]
  · have e1 : (c == d) = false := by simpa using h
    have e2 : (d == c) = false := by simpa using fun e => h e.symm
    simp [List.isPrefixOf, e1, e2]
end Go.Proofs.YtfibaopngpfmjaaGreatDoor
