/- Plain facts about reading a log: scan, load. Conditions: none beyond those that each fact names. No program in sight. -/
import Derived.Test.YtpcieookddpkhaaDoorBlkRec
import Derived.Maps.Views
set_option linter.unusedVariables false
set_option linter.unusedSimpArgs false
namespace Go.Proofs.YtpcieookddpkhaaDoor
open Go.RowKit Go.WideMaps Go.Maps
namespace Blok
/-- The sound records from u on; none: the store is full. -/
def scan (cap : Int) (l : List UInt8) : Nat → List Blk → Nat → Option (List Blk × Nat)
  | 0, acc, u => some (acc, u)
  | n + 1, acc, u => match sound (l.drop u) with
    | none => some (acc, u)
    | some b => if 0 ≤ idx b.sc acc then scan cap l n acc (u + (39 + b.dt.length)) else if cap ≤ acc.length then none else scan cap l n (acc ++ [b]) (u + (39 + b.dt.length))
/-- Does a sound record follow a broken one? -/
def broken (l : List UInt8) (u : Nat) : Bool := hOK (l.drop u) && (sound (l.drop (u + (39 + (hN (l.drop u)).toNat)))).isSome
def fin (cap : Int) (l : List UInt8) : Option (List Blk × Nat) → Int × List Blk × Int × Int
  | none => (0, [], 0, 22)
  | some (acc, u) => if broken l u then (0, [], 0, 34) else (cap, acc, u, 0)
/-- What Load returns: the capacity, the blocks, the bytes used, the error. -/
def load (l : List UInt8) (most : Int) : Int × List Blk × Int × Int := fin (capOf most) l (scan (capOf most) l (l.length + 1) [] 0)
theorem sound_fits {l : List UInt8} {b : Blk} (h : sound l = some b) : 39 + b.dt.length ≤ l.length ∧ b.sc.length = 32 ∧ known b.kd = true ∧ b.dt.length ≤ 1024 ∧ b.sc = scr b.kd b.dt := by
  unfold sound at h
  by_cases hc : hOK l = true ∧ hN l ≤ (l.length : Int) - 39
  · rw [if_pos hc] at h
    obtain ⟨h1, h2⟩ := hc
    have hh := hOK_head h1
    have h39 := (isHead_yes hh).1
    have hb := hN_bounds l
    split at h
    · rename_i hs
      injection h with h
      subst h
      have hn : hN l ≤ 1024 := by
        unfold hOK at h1; rw [hh, Bool.true_and, Bool.and_eq_true, decide_eq_true_eq] at h1
        unfold hN; rw [if_pos hh]; exact h1.2
      have hk : known (hK l) = true := by
        unfold hOK at h1; rw [hh, Bool.true_and, Bool.and_eq_true] at h1
        unfold hK; rw [if_pos hh]; exact h1.1
      simp only [List.length_take, List.length_drop]
      refine ⟨by omega, by omega, hk, by omega, hs.symm⟩
    · cases h
  · rw [if_neg hc] at h; cases h
theorem sound_nil : sound [] = none := sound_none (fun h => by have := hOK_head h.1; have := (isHead_yes this).1; simp at this)
theorem scan_stop {cap : Int} {l : List UInt8} {n : Nat} {acc : List Blk} {u : Nat} (h : sound (l.drop u) = none) : scan cap l n acc u = some (acc, u) := by
  cases n with
  | zero => rfl
  | succ n => rw [scan, h]
theorem scan_old {cap : Int} {l : List UInt8} {n : Nat} {acc : List Blk} {u : Nat} {b : Blk} (h : sound (l.drop u) = some b) (h2 : 0 ≤ idx b.sc acc) : scan cap l (n + 1) acc u = scan cap l n acc (u + (39 + b.dt.length)) := by
  rw [scan, h]; simp only [if_pos h2]
theorem scan_full {cap : Int} {l : List UInt8} {n : Nat} {acc : List Blk} {u : Nat} {b : Blk} (h : sound (l.drop u) = some b) (h2 : ¬ 0 ≤ idx b.sc acc) (h3 : cap ≤ acc.length) : scan cap l (n + 1) acc u = none := by
  rw [scan, h]; simp only [if_neg h2, if_pos h3]
theorem scan_new {cap : Int} {l : List UInt8} {n : Nat} {acc : List Blk} {u : Nat} {b : Blk} (h : sound (l.drop u) = some b) (h2 : ¬ 0 ≤ idx b.sc acc) (h3 : ¬ cap ≤ acc.length) : scan cap l (n + 1) acc u = scan cap l n (acc ++ [b]) (u + (39 + b.dt.length)) := by
  rw [scan, h]; simp only [if_neg h2, if_neg h3]
/-- Where the reading stands. -/
def At (most : Int) (l : List UInt8) (acc : List Blk) (u : Nat) : Prop := u ≤ l.length ∧ acc.length * 39 ≤ u ∧ (acc.length : Int) ≤ capOf most ∧ (∀ b ∈ acc, b.dt.length ≤ 1024 ∧ b.sc.length = 32) ∧ ∃ n, l.length - u + 1 ≤ n ∧ load l most = fin (capOf most) l (scan (capOf most) l n acc u)
theorem capOf_ge (most : Int) : 1 ≤ capOf most ∧ capOf most ≤ 4096 := by unfold capOf; omega
theorem at_start (most : Int) (l : List UInt8) : At most l [] 0 := ⟨Nat.zero_le _, by simp, by have := capOf_ge most; simp; omega, (fun b hb => by cases hb), l.length + 1, by omega, rfl⟩
theorem at_stop {most : Int} {l : List UInt8} {acc : List Blk} {u : Nat} (h : At most l acc u) (hs : sound (l.drop u) = none) : load l most = if broken l u then (0, [], 0, 34) else (capOf most, acc, (u : Int), 0) := by
  obtain ⟨_, _, _, _, n, _, h⟩ := h
  rw [h, scan_stop hs]; rfl
theorem at_next {most : Int} {l : List UInt8} {acc : List Blk} {u : Nat} {b : Blk} (h : At most l acc u) (hs : sound (l.drop u) = some b) :
    (0 ≤ idx b.sc acc → At most l acc (u + (39 + b.dt.length))) ∧ (¬ 0 ≤ idx b.sc acc → capOf most ≤ acc.length → load l most = (0, [], 0, 22)) ∧ (¬ 0 ≤ idx b.sc acc → ¬ capOf most ≤ acc.length → At most l (acc ++ [b]) (u + (39 + b.dt.length))) := by
  obtain ⟨h1, h2, h3, h5, n, hn, h4⟩ := h
  have hf := sound_fits hs
  rw [List.length_drop] at hf
  obtain ⟨m, rfl⟩ : ∃ m, n = m + 1 := ⟨n - 1, by omega⟩
  refine ⟨fun hi => ⟨by omega, by omega, h3, h5, m, by omega, ?_⟩, fun hi hc => ?_, fun hi hc => ⟨by omega, by simp; omega, by simp; omega, ?_, m, by omega, ?_⟩⟩
  · rw [h4, scan_old hs hi]
  · rw [h4, scan_full hs hi hc]; rfl
  · intro x hx
    rcases List.mem_append.1 hx with hx | hx
    · exact h5 x hx
    · rw [List.mem_singleton] at hx; subst hx; exact ⟨hf.2.2.2.1, hf.2.1⟩
  · rw [h4, scan_new hs hi hc]
/-- The map of the scores seen, each counted: at most k rounds. -/
def Seen2 (D : DataW Unit) (l : List Blk) (k : Nat) : Prop :=
  IsMap D ∧ ∀ x : List UInt8, ∃ c : Int, D.atKey (.string x) (.lit (.int .i64 0)) = .lit (.int .i64 c) ∧ 0 ≤ c ∧ c ≤ k ∧ (0 < c ↔ 0 ≤ idx x l)
theorem seen2_start : Seen2 (.map []) [] 0 := ⟨isMap_empty, fun x => ⟨0, rfl, Int.le_refl _, Int.le_refl _, by simp [idx]⟩⟩
theorem idx_app (x : List UInt8) (l : List Blk) (b : Blk) : 0 ≤ idx x (l ++ [b]) ↔ 0 ≤ idx x l ∨ b.sc = x := by
  rw [idx_mem, idx_mem]
  constructor
  · rintro ⟨y, hy, hs⟩
    rcases List.mem_append.1 hy with hy | hy
    · exact .inl ⟨y, hy, hs⟩
    · rw [List.mem_singleton] at hy; subst hy; exact .inr hs
  · rintro (⟨y, hy, hs⟩ | hs)
    · exact ⟨y, List.mem_append.2 (.inl hy), hs⟩
    · exact ⟨b, by simp, hs⟩
theorem seen2_put {D : DataW Unit} {l l' : List Blk} {k : Nat} {b : Blk} {c : Int} (h : Seen2 D l k) (hat : D.atKey (.string b.sc) (.lit (.int .i64 0)) = .lit (.int .i64 c)) (hl : ∀ x, 0 ≤ idx x l' ↔ 0 ≤ idx x l ∨ b.sc = x) :
    Seen2 (D.put (.string b.sc) (.lit (.int .i64 (c + 1)))) l' (k + 1) := by
  refine ⟨h.1.put _ _, fun x => ?_⟩
  obtain ⟨c0, h1, h2, h3, h4⟩ := h.2 x
  have key := hl x
  by_cases he : b.sc = x
  · subst he
    rw [h1] at hat
    injection hat with hat
    injection hat with _ hat
    subst hat
    refine ⟨c0 + 1, atKey_put_same h.1 (show WideAt.IsKeyLit (.string b.sc) from True.intro) _ _, by omega, by omega, ?_⟩
    rw [key]
    simp; omega
  · refine ⟨c0, ?_, h2, by omega, ?_⟩
    · rw [atKey_put_other (fun e => he (by injection e with e; exact e.symm))]; exact h1
    · rw [key, h4]; simp [he]
end Blok
end Go.Proofs.YtpcieookddpkhaaDoor
