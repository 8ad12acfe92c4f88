/- What the scanner's word does at a word as Quote writes it. Conditions: a program of at most 10000 bytes; behind the word its end or a blank. -/
import Derived.Test.YtfibaopngpfmjaaGreatDoorPxWordQ
import Derived.Test.YtfibaopngpfmjaaGreatDoorPxPlain
set_option linter.unusedVariables false
set_option linter.unusedSimpArgs false
namespace Go.Proofs.YtfibaopngpfmjaaGreatDoor
open Go.RowKit Go.Proofs
theorem Lx.plain_simple {v : List UInt8} (h : Lx.plain v = true) : Lx.simple v ∧ v ≠ [] := by
  cases v with
  | nil => cases h
  | cons c t =>
    refine ⟨?_, by simp⟩
    have h2 : (!Lx.leading.contains c && (c :: t).all fun x => !Lx.bad x) = true := h
    rw [Bool.and_eq_true] at h2
    intro x hx
    have h3 := List.all_eq_true.1 h2.2 x hx
    exact Lx.bad_spec (by simpa using h3)
theorem word_any (g : Nat) (s v tl : List UInt8) (at_ en : Nat) (tv : Value) (w : World) (h : ScRow w g s at_ en tv) (ha : at_ ≤ s.length) (hs : s.length ≤ 10000) (hd : s.drop at_ = Lx.quote v ++ tl) (htl : Lx.stop tl) :
    Calls Tryz.prog 88 #[.pointer (some ⟨g, 0, none⟩)] w fun e w' => e = .returned (.tuple #[.string (T v), .string (T (Lx.marks v)), .bool true]) ∧ ScRow w' g s (s.length - tl.length) en tv ∧ w.grownBy w' (some g) := by
  unfold Lx.quote at hd
  unfold Lx.marks
  cases hp : Lx.plain v with
  | true =>
    rw [hp, if_pos rfl] at hd
    obtain ⟨h1, h2⟩ := Lx.plain_simple hp
    exact word_plain g s v tl at_ en tv w h ha hs hd h1 h2 htl
  | false =>
    rw [hp, if_neg (by decide)] at hd
    exact word_quoted g s v tl at_ en tv w h ha hs (by rw [hd]; simp) htl
/-- The bytes with which a word begins. -/
def Lx.wordy (c : UInt8) : Bool := c == 39 || (!Lx.bad c && !Lx.leading.contains c)
theorem Lx.quote_head (v : List UInt8) : ∃ c t, Lx.quote v = c :: t ∧ Lx.wordy c = true := by
  unfold Lx.quote
  cases hp : Lx.plain v with
  | false => exact ⟨39, _, rfl, rfl⟩
  | true =>
    cases v with
    | nil => cases hp
    | cons c t =>
      refine ⟨c, t, rfl, ?_⟩
      have h2 : (!Lx.leading.contains c && (c :: t).all fun x => !Lx.bad x) = true := hp
      rw [Bool.and_eq_true] at h2
      have h3 := List.all_eq_true.1 h2.2 c (List.mem_cons_self ..)
      unfold Lx.wordy
      rw [h2.1, h3]
      simp
theorem Lx.wordy_ne {c d : UInt8} (h : Lx.wordy c = true) (hd : Lx.wordy d = false) : c ≠ d := by
  rintro rfl
  rw [h] at hd
  cases hd
theorem Lx.hp_ne (c : UInt8) (t : List UInt8) (d : UInt8) (p : List UInt8) (h : c ≠ d) : Go.Lib.hasPrefix (c :: t) (d :: p) = false := by
  unfold Go.Lib.hasPrefix
  have e : (d == c) = false := by simpa using fun e => h e.symm
  simp [List.isPrefixOf, e]
theorem Lx.free_wordy {c : UInt8} (h : Lx.wordy c = true) (t : List UInt8) : Lx.free (c :: t) :=
  ⟨Lx.hp_ne _ _ _ _ (Lx.wordy_ne h (by decide)), Lx.hp_ne _ _ _ _ (Lx.wordy_ne h (by decide)), Lx.hp_ne _ _ _ _ (Lx.wordy_ne h (by decide))⟩
end Go.Proofs.YtfibaopngpfmjaaGreatDoor
