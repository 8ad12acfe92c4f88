/- Quoting a text of the shell, and its tokens, as functions on lists. Conditions: none beyond those that each fact names. -/
import Derived.Lib.Replace
import Derived.Lib.SplitLaws
import Derived.Lib.IndexBytes
import Derived.Lib.Repeat
set_option linter.unusedVariables false
namespace Go.Proofs.YtfibaopngpfmjaaGreatDoor
namespace Lx
/-- The bytes that end a word. -/
def specials : List UInt8 := [32, 9, 10, 59, 38, 124, 40, 41, 123, 125, 60, 62, 61, 94, 96, 36, 39]
def escapes : List UInt8 := [92, 42, 63, 91]
def leading : List UInt8 := [35, 33, 64]
def special (c : UInt8) : Bool := specials.contains c
def bad (c : UInt8) : Bool := (specials ++ escapes).contains c
/-- A text that needs no quotes. -/
def plain : List UInt8 → Bool
  | [] => false
  | c :: s => !leading.contains c && (c :: s).all fun x => !bad x
/-- Each quote twice. -/
def esc : List UInt8 → List UInt8
  | [] => []
  | c :: s => if c = 39 then 39 :: 39 :: esc s else c :: esc s
def quote (s : List UInt8) : List UInt8 := if plain s then s else 39 :: (esc s ++ [39])
/-- The mark of each byte. -/
def marks (s : List UInt8) : List UInt8 := List.replicate s.length (if plain s then 48 else 49)
theorem esc_none : ∀ (s : List UInt8), 39 ∉ s → esc s = s
  | [], _ => rfl
  | c :: s, h => by
    have h1 : ¬ c = 39 := fun e => h (by rw [e]; exact List.mem_cons_self ..)
    rw [esc, if_neg h1, esc_none s (fun e => h (List.mem_cons_of_mem _ e))]
theorem esc_cut : ∀ (a b : List UInt8), 39 ∉ a → esc (a ++ 39 :: b) = a ++ 39 :: 39 :: esc b
  | [], b, _ => by rw [List.nil_append, esc, if_pos rfl]; rfl
  | c :: a, b, h => by
    have h1 : ¬ c = 39 := fun e => h (by rw [e]; exact List.mem_cons_self ..)
    rw [List.cons_append, esc, if_neg h1, esc_cut a b (fun e => h (List.mem_cons_of_mem _ e))]
    rfl
/-- Up to the first quote. -/
theorem first_quote : ∀ (s : List UInt8), 39 ∉ s ∨ ∃ a b, s = a ++ 39 :: b ∧ 39 ∉ a
  | [] => .inl (by simp)
  | c :: s => by
    by_cases h : c = 39
    · exact .inr ⟨[], s, by rw [h]; rfl, by simp⟩
    · rcases first_quote s with h2 | ⟨a, b, rfl, h2⟩
      · exact .inl (by simp only [List.mem_cons, not_or]; exact ⟨fun e => h e.symm, h2⟩)
      · exact .inr ⟨c :: a, b, rfl, by simp only [List.mem_cons, not_or]; exact ⟨fun e => h e.symm, h2⟩⟩
theorem esc_le : ∀ (s : List UInt8), (esc s).length ≤ 2 * s.length
  | [] => by simp [esc]
  | c :: s => by
    have := esc_le s
    rw [esc]
    split <;> simp <;> omega
theorem quote_le (s : List UInt8) : (quote s).length ≤ 2 * s.length + 2 := by
  unfold quote
  split
  · omega
  · have := esc_le s
    simp; omega
theorem index_quote (a t : List UInt8) (h : 39 ∉ a) : Go.Lib.indexByte (a ++ 39 :: t) 39 = (a.length : Int) := by
  induction a with
  | nil => rfl
  | cons c a ih =>
    have h1 : ¬ c = 39 := fun e => h (by rw [e]; exact List.mem_cons_self ..)
    have h2 := ih (fun e => h (List.mem_cons_of_mem _ e))
    rw [List.cons_append, Go.Lib.indexByte, h2]
    have e1 : (c == 39) = false := by simpa using h1
    rw [e1, if_neg (by decide), if_neg (show ¬ (((a.length : Int) == -1) = true) from by simp)]
    simp
theorem index_none (a : List UInt8) (c : UInt8) (h : c ∉ a) : Go.Lib.indexByte a c = -1 := by
  induction a with
  | nil => rfl
  | cons x a ih =>
    have h1 : ¬ x = c := fun e => h (by rw [e]; exact List.mem_cons_self ..)
    have h2 := ih (fun e => h (List.mem_cons_of_mem _ e))
    rw [Go.Lib.indexByte, h2]
    have e1 : (x == c) = false := by simpa using h1
    rw [e1]; rfl
theorem index_lt (a : List UInt8) (c : UInt8) : decide (Go.Lib.indexByte a c < 0) = !a.contains c := by
  by_cases h : c ∈ a
  · have h1 : ¬ Go.Lib.indexByte a c < 0 := by
      induction a with
      | nil => cases h
      | cons x a ih =>
        rw [Go.Lib.indexByte]
        split
        · decide
        · rename_i hx
          have hx2 : ¬ x = c := by simpa using hx
          have h2 : c ∈ a := by
            rcases List.mem_cons.1 h with e | e
            · exact absurd e.symm hx2
            · exact e
          have := ih h2
          have h3 : ¬ Go.Lib.indexByte a c = -1 := by omega
          rw [if_neg (by simpa using h3)]
          omega
    rw [decide_eq_false h1]
    simp [h]
  · rw [index_none a c h]
    simp [h]
/-- What strings.ReplaceAll makes of it. -/
theorem replace_quote (s : List UInt8) : Go.Lib.replaceAll s [39] [39, 39] = esc s := by
  unfold Go.Lib.replaceAll Go.Lib.replace
  rw [if_neg (by decide)]
  have hn : Go.Lib.replaceNum s [39] (-1) = s.count 39 := by
    unfold Go.Lib.replaceNum
    rw [if_pos (.inl (by decide)), Go.Lib.count_one]
  rw [hn]
  obtain ⟨n, hl⟩ : ∃ n, s.length = n := ⟨_, rfl⟩
  clear hn
  induction n using Nat.strongRecOn generalizing s with
  | _ n ih =>
    rcases first_quote s with h | ⟨a, b, rfl, h⟩
    · rw [List.count_eq_zero.2 h, esc_none s h]; rfl
    · have hc : (a ++ 39 :: b).count 39 = b.count 39 + 1 := by
        rw [List.count_append, List.count_eq_zero.2 h, List.count_cons_self]; omega
      have hi : Go.Lib.index (a ++ 39 :: b) [39] = (a.length : Int) := by rw [Go.Lib.index_one]; exact index_quote a b h
      rw [hc, Go.Lib.replaceK_hit _ _ _ _ _ hi, esc_cut a b h, List.take_left]
      have hd : (a ++ 39 :: b).drop (a.length + ([39] : List UInt8).length) = b := by
        rw [← List.drop_drop, List.drop_left]; rfl
      rw [hd]
      have := ih b.length (by rw [← hl]; simp; omega) b rfl
      rw [this]
      simp
end Lx
end Go.Proofs.YtfibaopngpfmjaaGreatDoor
