/- Plain facts about stores of blocks (layer 15): what index, New, Right, Put, Get return, as functions on lists. Conditions: none beyond those that each fact names. No program in sight. -/
import Derived.Test.YtpcieookddpkhaaDoorScore
import Derived.Test.YtpcieookddpkhaaDoorOctMath
set_option linter.unusedVariables false
namespace Go.Proofs.YtpcieookddpkhaaDoor
structure Blk where
  sc : List UInt8
  kd : Int
  dt : List UInt8
deriving DecidableEq
namespace Blok
/-- The number of the first block with a score; -1 if there is none. -/
def idx (x : List UInt8) : List Blk → Int
  | [] => -1
  | b :: l => if b.sc = x then 0 else if idx x l < 0 then -1 else idx x l + 1
theorem idx_ge (x : List UInt8) : ∀ l, -1 ≤ idx x l
  | [] => by simp [idx]
  | b :: l => by
    have := idx_ge x l
    rw [idx]; split
    · omega
    · split <;> omega
theorem idx_lt (x : List UInt8) : ∀ l : List Blk, idx x l < l.length
  | [] => by simp [idx]
  | b :: l => by
    have := idx_lt x l
    rw [idx]; split
    · simp <;> omega
    · split <;> simp <;> omega
theorem idx_at (x : List UInt8) : ∀ (l : List Blk) (k : Nat) (h : k < l.length), (∀ j (hj : j < k), ¬ (l[j]'(by omega)).sc = x) → l[k].sc = x → idx x l = k := by
  intro l
  induction l with
  | nil => intro k h; simp at h
  | cons y l ih =>
    intro k h hn he
    rw [idx]
    cases k with
    | zero => rw [if_pos (by simpa using he)]; rfl
    | succ k =>
      have h0 := hn 0 (by omega)
      rw [if_neg (by simpa using h0)]
      have := ih k (by simpa using h) (fun j hj => by have := hn (j + 1) (by omega); simpa using this) (by simpa using he)
      rw [this, if_neg (by omega)]
      omega
theorem idx_none (x : List UInt8) : ∀ (l : List Blk), (∀ j (hj : j < l.length), ¬ l[j].sc = x) → idx x l = -1 := by
  intro l
  induction l with
  | nil => intro _; rfl
  | cons y l ih =>
    intro hn
    have h0 := hn 0 (by simp)
    rw [idx, if_neg (by simpa using h0)]
    have := ih (fun j hj => by have := hn (j + 1) (by simpa using hj); simpa using this)
    rw [this]; rfl
theorem idx_hit (x : List UInt8) : ∀ (l : List Blk) (h : 0 ≤ idx x l), ∃ hk : (idx x l).toNat < l.length, l[(idx x l).toNat].sc = x := by
  intro l
  induction l with
  | nil => intro h; simp [idx] at h
  | cons y l ih =>
    intro h
    by_cases he : y.sc = x
    · have e : idx x (y :: l) = 0 := by rw [idx, if_pos he]
      simp only [e]
      exact ⟨by simp, by simpa using he⟩
    · by_cases h2 : idx x l < 0
      · have e : idx x (y :: l) = -1 := by rw [idx, if_neg he, if_pos h2]
        omega
      · have e : idx x (y :: l) = idx x l + 1 := by rw [idx, if_neg he, if_neg h2]
        obtain ⟨hk, hs⟩ := ih (by omega)
        have e2 : (idx x (y :: l)).toNat = (idx x l).toNat + 1 := by rw [e]; omega
        refine ⟨by rw [e2]; simpa using hk, ?_⟩
        simp only [e2, List.getElem_cons_succ]
        exact hs
theorem idx_mem (x : List UInt8) (l : List Blk) : 0 ≤ idx x l ↔ ∃ b ∈ l, b.sc = x := by
  constructor
  · intro h
    obtain ⟨hk, hs⟩ := idx_hit x l h
    exact ⟨_, List.getElem_mem hk, hs⟩
  · rintro ⟨b, hb, hs⟩
    rcases Int.lt_or_le (idx x l) 0 with h | h
    · exfalso
      have key : ∀ l : List Blk, b ∈ l → 0 ≤ idx x l := by
        intro l
        induction l with
        | nil => intro h; cases h
        | cons y l ih =>
          intro hm
          rw [idx]
          split
          · omega
          · rename_i hne
            rcases List.mem_cons.1 hm with e | hm
            · exact absurd (e ▸ hs) hne
            · have := ih hm
              rw [if_neg (by omega)]; omega
      have := key l hb
      omega
    · exact h
/-- Is it the kind of a block? -/
def known (k : Int) : Bool := decide (1 ≤ k) && decide (k ≤ 4)
def scr (k : Int) (d : List UInt8) : List UInt8 := Sha.sum (kb k :: d)
def made (k : Int) (d : List UInt8) : Blk := ⟨scr k d, k, d⟩
theorem scr_length (k : Int) (d : List UInt8) : (scr k d).length = 32 := Sha.sum_length _
/-- The capacity of a new store. -/
def capOf (most : Int) : Int := min (max most 1) 4096
/-- One block of a valid store: behind the first i ones. -/
def okAt (bs : List Blk) (i : Nat) (b : Blk) : Prop := known b.kd = true ∧ b.dt.length ≤ 1024 ∧ b.sc.length = 32 ∧ idx b.sc (bs.take i) < 0
def Right (cap : Int) (bs : List Blk) : Prop := 1 ≤ cap ∧ cap ≤ 4096 ∧ (bs.length : Int) ≤ cap ∧ ∀ i (h : i < bs.length), okAt bs i bs[i]
open Classical in
noncomputable def right (cap : Int) (bs : List Blk) : Bool := decide (Right cap bs)
def put (cap : Int) (bs : List Blk) (k : Int) (d : List UInt8) : List Blk × List UInt8 × Int :=
  if known k = false then (bs, [], 1) else if 1024 < d.length then (bs, [], 4)
  else if 0 ≤ idx (scr k d) bs then (if bs[(idx (scr k d) bs).toNat]? = some (made k d) then (bs, scr k d, 0) else (bs, [], 34))
  else if cap ≤ bs.length then (bs, [], 22) else (bs ++ [made k d], scr k d, 0)
def get (bs : List Blk) (s : List UInt8) (k : Int) : List UInt8 × Int :=
  match bs[(idx s bs).toNat]? with
  | none => ([], 35)
  | some b => if idx s bs < 0 then ([], 35) else if b.kd ≠ k then ([], 1) else if b ≠ made k b.dt then ([], 34) else (b.dt, 0)
/-- The record of a block. -/
def rec (b : Blk) : List UInt8 := [102, 115, 98, 49] ++ Oct.putS b.kd 1 ++ Oct.putS b.dt.length 2 ++ b.sc ++ b.dt
def log : List Blk → List UInt8
  | [] => []
  | b :: l => rec b ++ log l
theorem log_append (a b : List Blk) : log (a ++ b) = log a ++ log b := by
  induction a with
  | nil => rfl
  | cons x a ih => rw [List.cons_append, log, log, ih, List.append_assoc]
def used : List Blk → Nat
  | [] => 0
  | b :: l => 39 + b.dt.length + used l
end Blok
end Go.Proofs.YtpcieookddpkhaaDoor
