/- Two builders of one call, written in turn. Conditions: texts of at most 2^40 bytes. -/
import Derived.Test.YtfibaopngpfmjaaGreatDoorPxTwo
set_option linter.unusedVariables false
set_option linter.unusedSimpArgs false
namespace Go.Proofs.YtfibaopngpfmjaaGreatDoor
open Go.RowKit Go.Proofs
def Two (B b1 b2 : Nat) (l1 l2 : List UInt8) (W : World) : Prop :=
  b1 ≠ b2 ∧ ∃ v1 v2, BAt B b1 v1 (Lib.byteCells l1) W ∧ BAt B b2 v2 (Lib.byteCells l2) W ∧ (v1.ownBlock = none ∨ v2.ownBlock = none ∨ v1.ownBlock ≠ v2.ownBlock)
theorem Two.symm {B b1 b2 : Nat} {l1 l2 : List UInt8} {W : World} (h : Two B b1 b2 l1 l2 W) : Two B b2 b1 l2 l1 W := by
  obtain ⟨hn, v1, v2, h1, h2, h3⟩ := h
  refine ⟨fun e => hn e.symm, v2, v1, h2, h1, ?_⟩
  rcases h3 with h3 | h3 | h3
  · exact .inr (.inl h3)
  · exact .inl h3
  · exact .inr (.inr fun e => h3 e.symm)
theorem Two.left {B b1 b2 : Nat} {l1 l2 : List UInt8} {W : World} (h : Two B b1 b2 l1 l2 W) : IsB B b1 l1 W := by
  obtain ⟨_, v1, v2, h1, _⟩ := h
  exact h1.isB
/-- A builder that another's writing leaves alone. -/
theorem BAt.frm {B b b' : Nat} {v : Value} {ro : Option Nat} {bs : List Value} {w w' : World} (h : BAt B b v bs w) (hf : Frm b' ro w w') (hb : b ≠ b') (hro : some b ≠ ro) (hv : v.ownBlock = none ∨ v.ownBlock ≠ ro) (hvb : v.ownBlock ≠ some b') : BAt B b v bs w' := by
  obtain ⟨hB, p, hp, hbk, ho⟩ := h
  refine ⟨hB, p, hp, (hf.2 b (row_ltP hbk) hb hro).trans hbk, ho.1, ?_⟩
  rcases ho.2 with h2 | ⟨g, cap, cur, e1, e2, e3, e4⟩
  · exact .inl h2
  · subst e1
    refine .inr ⟨g, cap, cur, rfl, e2, (hf.2 g (row_ltP e3) (fun e => hvb (by rw [e]; rfl)) ?_).trans e3, e4⟩
    rcases hv with hv | hv
    · cases hv
    · exact hv
theorem BAt.ne {B b b' : Nat} {v v' : Value} {bs bs' : List Value} {w : World} (h : BAt B b v bs w) (h' : BAt B b' v' bs' w) : v.ownBlock ≠ some b' := by
  obtain ⟨_, p, _, hbk, ho⟩ := h
  obtain ⟨_, p', _, hbk', ho'⟩ := h'
  exact Lib.ownBlock_ne ho hbk' (by decide)
theorem BAt.row {B b k : Nat} {v : Value} {bs : List Value} {w : World} (h : BAt B b v bs w) (hk : v.ownBlock = some k) : k < w.heap.size := by
  obtain ⟨_, p, _, hbk, ho⟩ := h
  exact (ho.lt k hk).2
theorem wb_two (B b1 b2 : Nat) (l1 l2 : List UInt8) (c : UInt8) (z : Int) (hz : z = (c.toNat : Int)) (w : World) (h : Two B b1 b2 l1 l2 w) (hlen : l1.length ≤ 1099511627776) (hBw : B ≤ w.heap.size) :
    Calls Tryz.prog 151 #[.pointer (some ⟨b1, 0, none⟩), .int .u8 z] w fun e w' => e = .returned .nilIface ∧ (Two B b1 b2 (l1 ++ [c]) l2 w' ∧ Below B w w') := by
  obtain ⟨hn, v1, v2, h1, h2, h3⟩ := h
  refine (wbyte_at B b1 v1 (Lib.byteCells l1) z w h1 (by rw [Lib.byteCells_length]; omega) hBw).mono ?_
  rintro e w' ⟨he, ⟨v', hb, hro⟩, hf, hbl⟩
  have e21 := h2.ne h1
  have k2 : BAt B b2 v2 (Lib.byteCells l2) w' := h2.frm hf (fun e => hn e.symm) (fun e => h1.ne h2 e.symm) (by
    rcases h3 with h3 | h3 | h3
    · rcases hx : v2.ownBlock with _ | k
      · exact .inl rfl
      · exact .inr (by rw [h3]; intro e; cases e)
    · exact .inl h3
    · exact .inr fun e => h3 e.symm) e21
  refine ⟨he, ⟨hn, v', v2, ?_, k2, ?_⟩, hbl⟩
  · rw [Lib.byteCells_append]
    subst hz
    exact hb
  · rcases hx : v2.ownBlock with _ | k
    · exact .inr (.inl rfl)
    · rcases hro with e | ⟨m, e, hm⟩
      · rw [e]
        rcases h3 with h3 | h3 | h3
        · exact .inl h3
        · rw [h3] at hx; cases hx
        · exact .inr (.inr (by rw [← hx]; exact h3))
      · have := h2.row hx
        refine .inr (.inr ?_)
        rw [e]
        intro e2
        cases e2
        omega
/-- Both are new. -/
def Fresh2 (B b1 b2 : Nat) (W : World) : Prop := b1 ≠ b2 ∧ BAt B b1 (.slice none 0 0) [] W ∧ BAt B b2 (.slice none 0 0) [] W
theorem Fresh2.two {B b1 b2 : Nat} {W : World} (h : Fresh2 B b1 b2 W) : Two B b1 b2 [] [] W := ⟨h.1, _, _, h.2.1, h.2.2, .inl rfl⟩
theorem bat_new (w : World) (B : Nat) (hB : B ≤ w.heap.size) : BAt B w.heap.size (.slice none 0 0) [] (w.alloc (.cells #[.pointer none, .slice none 0 0] 154)) :=
  ⟨hB, .pointer none, .inl rfl, Array.getElem?_push_size, rfl, .inl ⟨rfl, rfl⟩⟩
theorem BAt.far {B b g : Nat} {v : Value} {bs : List Value} {w w' : World} (h : BAt B b v bs w) (hg : w.grownBy w' (some g)) (hlt : g < B) : BAt B b v bs w' := by
  have hB := h.1
  refine h.frm (b' := g) (ro := none) ⟨hg.size, fun i hi hn _ => hg.block i hi (fun e => hn (Option.some.inj e))⟩ (by omega) (fun e => by cases e) ?_ ?_
  · rcases hx : v.ownBlock with _ | k
    · exact .inl rfl
    · exact .inr fun e => by cases e
  · obtain ⟨_, p, _, hbk, ho⟩ := h
    intro e
    have := (ho.lt g e).1
    omega
theorem fresh2_new (w : World) : Fresh2 w.heap.size w.heap.size (w.heap.size + 1) ((w.alloc (.cells #[.pointer none, .slice none 0 0] 154)).alloc (.cells #[.pointer none, .slice none 0 0] 154)) := by
  refine ⟨by omega, ?_, ?_⟩
  · obtain ⟨hB, p, hp, hbk, ho⟩ := bat_new w w.heap.size (Nat.le_refl _)
    exact ⟨hB, p, hp, (Lib.alloc_old _ _ _ (row_ltP hbk)).trans hbk, rfl, .inl ⟨rfl, rfl⟩⟩
  · have := bat_new (w.alloc (.cells #[.pointer none, .slice none 0 0] 154)) w.heap.size (by simp)
    simpa using this
theorem Fresh2.far {B b1 b2 g : Nat} {w w' : World} (h : Fresh2 B b1 b2 w) (hg : w.grownBy w' (some g)) (hlt : g < B) : Fresh2 B b1 b2 w' := ⟨h.1, h.2.1.far hg hlt, h.2.2.far hg hlt⟩
theorem Two.far {B b1 b2 g : Nat} {l1 l2 : List UInt8} {w w' : World} (h : Two B b1 b2 l1 l2 w) (hg : w.grownBy w' (some g)) (hlt : g < B) : Two B b1 b2 l1 l2 w' := by
  obtain ⟨hn, v1, v2, h1, h2, h3⟩ := h
  exact ⟨hn, v1, v2, h1.far hg hlt, h2.far hg hlt, h3⟩
/-- A text into a builder that is new, beside another. -/
theorem ws_two (B b1 b2 : Nat) (v2 : Value) (l2 p : List UInt8) (w : World) (hn : b1 ≠ b2) (h1 : BAt B b1 (.slice none 0 0) [] w) (h2 : BAt B b2 v2 (Lib.byteCells l2) w) (hlen : p.length ≤ 1099511627776) (hBw : B ≤ w.heap.size) :
    Calls Tryz.prog 105 #[.pointer (some ⟨b1, 0, none⟩), .string (T p)] w fun e w' => e = .returned (.tuple #[.int .i64 (p.length : Int), .nilIface]) ∧ ((∃ v1, BAt B b1 v1 (Lib.byteCells p) w' ∧ BAt B b2 v2 (Lib.byteCells l2) w' ∧ (v1.ownBlock = none ∨ v2.ownBlock = none ∨ v1.ownBlock ≠ v2.ownBlock) ∧ (p = [] → v1 = .slice none 0 0)) ∧ Below B w w') := by
  have hsz : (T p).size = p.length := T_size p
  refine (wstring_new B b1 (T p) w h1 (by rw [hsz]; omega) hBw).mono ?_
  rintro e w' ⟨he, ⟨v', hb, hro, hnil⟩, hf, hbl⟩
  refine ⟨by rw [he, hsz], ⟨v', hb, ?_, ?_, fun hp => hnil (by rw [hp]; rfl)⟩, hbl⟩
  · refine h2.frm hf (fun e => hn e.symm) (fun e => by cases e) ?_ (h2.ne h1)
    rcases hx : v2.ownBlock with _ | k
    · exact .inl rfl
    · exact .inr fun e => by cases e
  · rcases hro with e | ⟨m, e, hm⟩
    · exact .inl e
    · rcases hx : v2.ownBlock with _ | k
      · exact .inr (.inl rfl)
      · have := h2.row hx
        refine .inr (.inr ?_)
        rw [e]
        intro e2
        cases e2
        omega
end Go.Proofs.YtfibaopngpfmjaaGreatDoor
