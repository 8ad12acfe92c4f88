/- Builders of the call's own, as lists of bytes. Conditions: texts of at most 2^40 bytes. -/
import Derived.Test.YtfibaopngpfmjaaGreatDoorPxBlank
set_option linter.unusedVariables false
set_option linter.unusedSimpArgs false
namespace Go.Proofs.YtfibaopngpfmjaaGreatDoor
open Go.RowKit
abbrev IsB (B b : Nat) (l : List UInt8) (w : World) : Prop := Lib.IsBuilder 154 5 B b (Lib.byteCells l) w
theorem isb_new (w : World) : IsB w.heap.size w.heap.size [] (w.alloc (.cells #[.pointer none, .slice none 0 0] 154)) := Lib.fresh_isBuilder 154 5 w
theorem wb_any (B b : Nat) (l : List UInt8) (c : UInt8) (z : Int) (hz : z = (c.toNat : Int)) (w : World) (h : IsB B b l w) (hlen : l.length ≤ 1099511627776) (hBw : B ≤ w.heap.size) :
    Calls Tryz.prog 151 #[.pointer (some ⟨b, 0, none⟩), .int .u8 z] w fun e w' => e = .returned .nilIface ∧ (IsB B b (l ++ [c]) w' ∧ Below B w w') := by
  refine (wbyte_any B b (Lib.byteCells l) z w h (by rw [Lib.byteCells_length]; omega) hBw).mono ?_
  rintro e w' ⟨he, h1, h2⟩
  refine ⟨he, ?_, h2⟩
  unfold IsB
  rw [Lib.byteCells_append]
  subst hz
  exact h1
theorem ws_any (B b : Nat) (l p : List UInt8) (w : World) (h : IsB B b l w) (hlen : l.length + p.length ≤ 1099511627776) (hBw : B ≤ w.heap.size) :
    Calls Tryz.prog 105 #[.pointer (some ⟨b, 0, none⟩), .string (T p)] w fun e w' => e = .returned (.tuple #[.int .i64 (p.length : Int), .nilIface]) ∧ (IsB B b (l ++ p) w' ∧ Below B w w') := by
  have hsz : (T p).size = p.length := T_size p
  refine (wstring_any B b (Lib.byteCells l) (T p) w h (by rw [Lib.byteCells_length, hsz]; omega) hBw).mono ?_
  rintro e w' ⟨he, h1, h2⟩
  refine ⟨by rw [he, hsz], ?_, h2⟩
  unfold IsB
  rw [Lib.byteCells_append]
  exact h1
theorem bstr_any (B b : Nat) (l : List UInt8) (w : World) (h : IsB B b l w) (hBw : B ≤ w.heap.size) :
    Calls Tryz.prog 107 #[.pointer (some ⟨b, 0, none⟩)] w fun e w' => e = .returned (.string (T l)) ∧ Below B w w' := Builder_String_any B b l w h hBw
theorem grown_belowB {w W W' : World} {g B : Nat} (hg : w.grownBy W (some g)) (hb : Below B W W') (hB : w.heap.size ≤ B) : w.grownBy W' (some g) :=
  ⟨hb.os.trans hg.os, hb.tape.trans hg.tape, hb.output.trans hg.output, Nat.le_trans hg.size hb.size, fun i hi hn => (hb.block i (Nat.lt_of_lt_of_le hi hB)).trans (hg.block i hi hn)⟩
theorem ScRow.belowB {w w' : World} {g B : Nat} {s : List UInt8} {at_ en : Nat} {tv : Value} (h : ScRow w g s at_ en tv) (hb : Below B w w') (hg : g < B) : ScRow w' g s at_ en tv := (hb.block _ hg).trans h
theorem IsB.far {B b : Nat} {l : List UInt8} {w w' : World} {g : Nat} (h : IsB B b l w) (hg : w.grownBy w' (some g)) (hlt : g < B) : IsB B b l w' := by
  have one : ∀ p, Lib.BuilderAt 154 5 B b p (Lib.byteCells l) w → Lib.BuilderAt 154 5 B b p (Lib.byteCells l) w' := by
    intro p hp
    obtain ⟨hB, v, hbk, hown, hne⟩ := hp
    have h1 : b ≠ g := by intro e; omega
    refine ⟨hB, v, (hg.block b (row_ltP hbk) (fun e => h1 (Option.some.inj e))).trans hbk, hown.kept hg ?_, hne⟩
    rcases hown.2 with ⟨hv, _⟩ | ⟨k, cap, cur, hv, hk, _⟩
    · exact .inl (by rw [hv]; rfl)
    · refine .inr ?_
      have h2 : k ≠ g := by intro e; omega
      rw [hv]
      intro e
      exact h2 (Option.some.inj e)
  rcases h with h | h
  · exact .inl (one _ h)
  · exact .inr (one _ h)
end Go.Proofs.YtfibaopngpfmjaaGreatDoor
