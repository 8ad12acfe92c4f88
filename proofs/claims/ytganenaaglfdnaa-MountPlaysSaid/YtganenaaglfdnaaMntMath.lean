/- Plain facts about name spaces (layer 42): channels, targets, mounts as lists; find, Right, Union, Add, Cut, CutAll, Same. Conditions: none beyond those that each fact names. No program in sight. -/
import Derived.Test.YtganenaaglfdnaaKit
set_option linter.unusedVariables false
namespace Go.Proofs.Ytganenaaglfdnaa
structure Chn where
  dev : Int
  id : Int
  fid : Int
  path : List UInt8
  name : List UInt8
deriving DecidableEq
structure Tgt where
  ch : Chn
  cr : Bool
deriving DecidableEq
structure Mnt where
  fr : Chn
  to : List Tgt
deriving DecidableEq
instance : Inhabited Chn := ⟨⟨0, 0, 0, [], []⟩⟩
instance : Inhabited Tgt := ⟨⟨default, false⟩⟩
instance : Inhabited Mnt := ⟨⟨default, []⟩⟩
namespace Ns
/-- The number of the first element that passes; -1 if there is none. -/
def ix {α : Type} (p : α → Bool) : List α → Int
  | [] => -1
  | b :: l => if p b = true then 0 else if ix p l < 0 then -1 else ix p l + 1
section
variable {α : Type} (p : α → Bool)
theorem ix_ge : ∀ l, -1 ≤ ix p l
  | [] => by simp [ix]
  | b :: l => by
    have := ix_ge l
    rw [ix]; split
    · omega
    · split <;> omega
theorem ix_lt : ∀ l : List α, ix p l < l.length
  | [] => by simp [ix]
  | b :: l => by
    have := ix_lt l
    rw [ix]; split
    · simp <;> omega
    · split <;> simp <;> omega
theorem ix_at : ∀ (l : List α) (k : Nat) (h : k < l.length), (∀ j (hj : j < k), ¬ p (l[j]'(by omega)) = true) → p l[k] = true → ix p l = k := by
  intro l
  induction l with
  | nil => intro k h; simp at h
  | cons y l ih =>
    intro k h hn he
    rw [ix]
    cases k with
    | zero => rw [if_pos (by simpa using he)]; rfl
    | succ k =>
      have h0 := hn 0 (by omega)
      rw [if_neg (by simpa using h0)]
      have := ih k (by simpa using h) (fun j hj => by have := hn (j + 1) (by omega); simpa using this) (by simpa using he)
      rw [this, if_neg (by omega)]
      omega
theorem ix_none : ∀ (l : List α), (∀ j (hj : j < l.length), ¬ p l[j] = true) → ix p l = -1 := by
  intro l
  induction l with
  | nil => intro _; rfl
  | cons y l ih =>
    intro hn
    have h0 := hn 0 (by simp)
    rw [ix, if_neg (by simpa using h0)]
    have := ih (fun j hj => by have := hn (j + 1) (by simpa using hj); simpa using this)
    rw [this]; rfl
/-- Where the number is not negative: the element passes, and none ahead of it. -/
theorem ix_hit : ∀ (l : List α), 0 ≤ ix p l → ∃ (k : Nat) (h : k < l.length), ix p l = k ∧ p l[k] = true ∧ ∀ j (hj : j < k), ¬ p (l[j]'(by omega)) = true := by
  intro l
  induction l with
  | nil => intro h; simp [ix] at h
  | cons y l ih =>
    intro h
    by_cases he : p y = true
    · exact ⟨0, by simp, by rw [ix, if_pos he]; rfl, by simpa using he, fun j hj => by omega⟩
    · by_cases h2 : ix p l < 0
      · have e : ix p (y :: l) = -1 := by rw [ix, if_neg he, if_pos h2]
        omega
      · have e : ix p (y :: l) = ix p l + 1 := by rw [ix, if_neg he, if_neg h2]
        obtain ⟨k, hk, h3, h4, h5⟩ := ih (by omega)
        refine ⟨k + 1, by simpa using hk, by rw [e, h3]; rfl, by simpa using h4, fun j hj => ?_⟩
        cases j with
        | zero => simpa using he
        | succ j => have := h5 j (by omega); simpa using this
theorem ix_mem (l : List α) : 0 ≤ ix p l ↔ ∃ b ∈ l, p b = true := by
  constructor
  · intro h
    obtain ⟨k, hk, _, h4, _⟩ := ix_hit p l h
    exact ⟨_, List.getElem_mem hk, h4⟩
  · rintro ⟨b, hb, hs⟩
    rcases Int.lt_or_le (ix p l) 0 with h | h
    · exfalso
      have key : ∀ l : List α, b ∈ l → 0 ≤ ix p l := by
        intro l
        induction l with
        | nil => intro h; cases h
        | cons y l ih =>
          intro hm
          rw [ix]
          split
          · omega
          · rename_i hne
            rcases List.mem_cons.1 hm with e | hm
            · exact absurd (e ▸ hs) hne
            · have := ih hm
              rw [if_neg (by omega)]; omega
      have := key l hb
      omega
    · exact h
end
/-- The same file? -/
def same (a b : Chn) : Bool := decide (a.dev = b.dev) && decide (a.id = b.id)
theorem same_iff {a b : Chn} : same a b = true ↔ a.dev = b.dev ∧ a.id = b.id := by unfold same; rw [Bool.and_eq_true, decide_eq_true_eq, decide_eq_true_eq]
theorem same_refl (a : Chn) : same a a = true := same_iff.2 ⟨rfl, rfl⟩
theorem same_comm (a b : Chn) : same a b = same b a := by
  cases h : same b a
  · cases h2 : same a b
    · rfl
    · obtain ⟨e1, e2⟩ := same_iff.1 h2
      rw [same_iff.2 ⟨e1.symm, e2.symm⟩] at h; cases h
  · obtain ⟨e1, e2⟩ := same_iff.1 h
    exact same_iff.2 ⟨e1.symm, e2.symm⟩
theorem same_trans {a b c : Chn} (h : same a b = true) (k : same b c = true) : same a c = true := by
  obtain ⟨e1, e2⟩ := same_iff.1 h
  obtain ⟨f1, f2⟩ := same_iff.1 k
  exact same_iff.2 ⟨e1.trans f1, e2.trans f2⟩
/-- A valid channel. -/
def ok (c : Chn) : Prop := 0 ≤ c.dev ∧ c.dev < 32 ∧ 1 ≤ c.id ∧ c.id ≤ 1099511627776 ∧ c.fid = 0 ∧ c.path.length ≤ 1024 ∧ c.name.length ≤ 1024
instance (c : Chn) : Decidable (ok c) := by unfold ok; infer_instance
def valid (c : Chn) : Bool := decide (ok c)
def find (ms : List Mnt) (c : Chn) : Int := ix (fun m => same m.fr c) ms
def elem (u : List Tgt) (c : Chn) : Int := ix (fun t => same t.ch c) u
/-- A valid union. -/
def okU (u : List Tgt) : Prop := 1 ≤ u.length ∧ u.length ≤ 16 ∧ ∀ k (h : k < u.length), ok u[k].ch ∧ elem u u[k].ch = k
def okM (ms : List Mnt) (i : Nat) (m : Mnt) : Prop := ok m.fr ∧ find ms m.fr = i ∧ okU m.to
def Right (id : Int) (root : Chn) (ms : List Mnt) : Prop := 0 ≤ id ∧ id ≤ 9007199254740991 ∧ ok root ∧ ms.length ≤ 64 ∧ ∀ i (h : i < ms.length), okM ms i ms[i]
open Classical in
noncomputable def right (id : Int) (root : Chn) (ms : List Mnt) : Bool := decide (Right id root ms)
def union (ms : List Mnt) (c : Chn) : List Tgt × Bool :=
  match ms[(find ms c).toNat]? with
  | none => ([], false)
  | some m => if find ms c < 0 then ([], false) else (m.to, true)
/-- The mounts in which the union at a channel is u. -/
def put (ms : List Mnt) (old : Chn) (u : List Tgt) : List Mnt :=
  if find ms old < 0 then ms ++ [⟨old, u⟩] else ms.modify (find ms old).toNat (fun m => ⟨m.fr, u⟩)
/-- The union that Add begins with. -/
def base (ms : List Mnt) (old : Chn) : List Tgt := if (union ms old).2 = true then (union ms old).1 else [⟨old, false⟩]
def add (ms : List Mnt) (old c : Chn) (flag : Int) : List Mnt × Int :=
  if flag < 0 ∨ 6 < flag ∨ flag = 3 then (ms, 12)
  else if valid old = false ∨ valid c = false then (ms, 1)
  else if flag % 4 ≠ 0 ∧ 0 ≤ elem (base ms old) c then (ms, 7)
  else if (flag % 4 ≠ 0 ∧ 16 ≤ (base ms old).length) ∨ (find ms old < 0 ∧ 64 ≤ ms.length) then (ms, 22)
  else (put ms old (if flag % 4 = 0 then [⟨c, decide (4 ≤ flag)⟩] else if flag % 4 = 1 then ⟨c, decide (4 ≤ flag)⟩ :: base ms old else base ms old ++ [⟨c, decide (4 ≤ flag)⟩]), 0)
def cutAll (ms : List Mnt) (old : Chn) : List Mnt × Int := if find ms old < 0 then (ms, 45) else (ms.eraseIdx (find ms old).toNat, 0)
def cut (ms : List Mnt) (old c : Chn) : List Mnt × Int :=
  if elem (union ms old).1 c < 0 then (ms, 45)
  else if (union ms old).1.length = 1 then cutAll ms old
  else (put ms old ((union ms old).1.eraseIdx (elem (union ms old).1 c).toNat), 0)
def sameU (a b : List Tgt) : Prop := a.length = b.length ∧ ∀ k (h : k < a.length) (h2 : k < b.length), same a[k].ch b[k].ch = true ∧ a[k].cr = b[k].cr
def Same (r1 : Chn) (m1 : List Mnt) (r2 : Chn) (m2 : List Mnt) : Prop := same r1 r2 = true ∧ m1.length = m2.length ∧ ∀ k (h : k < m1.length) (h2 : k < m2.length), same m1[k].fr m2[k].fr = true ∧ sameU m1[k].to m2[k].to
open Classical in
noncomputable def sameU? (a b : List Tgt) : Bool := decide (sameU a b)
open Classical in
noncomputable def same? (r1 : Chn) (m1 : List Mnt) (r2 : Chn) (m2 : List Mnt) : Bool := decide (Same r1 m1 r2 m2)
end Ns
end Go.Proofs.Ytganenaaglfdnaa
