/- A drawn region's operations that are not wanted, taken in one go. Conditions: those that each fact names. -/
import Derived.Test.YtfibaopngpfmjaaGreatDoorKit
import Derived.Deep.RegionHeldLaw
set_option linter.unusedVariables false
namespace Go.Proofs.YtfibaopngpfmjaaGreatDoor
open Go.RowKit
/-- Not wanted here. -/
def offAt (ops : Array Oper) (tmps : Array Value) (i : Nat) : Bool :=
  match ops[i]? with
  | some o => !Region.wanted o (yielded ops tmps)
  | none => false
def skipAct : List (Nat × Nat) → Act → Act
  | [], a => a
  | (_, d) :: l, a => skipAct l (a.put (some d) undef)
def skipListed : List (Nat × Nat) → Array Bool → Array Bool
  | [], b => b
  | (i, _) :: l, b => skipListed l (b.setIfInBounds i true)
def skipOk (md : Region.Mode) (ops : Array Oper) : List (Nat × Nat) → Array Bool → Array Value → Bool
  | [], _, _ => true
  | (i, d) :: l, b, t => Region.free md ops b i && (Region.ready md ops b).contains i && offAt ops t i && ((ops[i]?).bind (·.dst) == some d) && skipOk md ops l (b.setIfInBounds i true) (t.setIfInBounds d undef)
section
variable {P : Program} {ops : Array Oper} {Q : Exit → Act → World → Prop} {md : Region.Mode} {S : World → Prop}
theorem wpAnyH_skips (hs : Region.noSelect ops = true) (hQ : ∀ d c a w, Q (.panic c) (a.put (some d) undef) w → Q (.panic c) a w) {w : World} (hS : S w) :
    ∀ (l : List (Nat × Nat)) (fuel n : Nat) (b : Array Bool) (a : Act), n = fuel + l.length → skipOk md ops l b a.tmps = true → wpAnyH P md ops Q S fuel (skipListed l b) (skipAct l a) w → wpAnyH P md ops Q S n b a w
  | [], _, _, _, _, e, _, h => by subst e; exact h
  | (i, d) :: l, fuel, n, b, a, e, hk, h => by
    subst e
    unfold skipOk at hk
    rw [Bool.and_eq_true, Bool.and_eq_true, Bool.and_eq_true, Bool.and_eq_true] at hk
    obtain ⟨⟨⟨⟨h1, h2⟩, h3⟩, h5⟩, h4⟩ := hk
    unfold offAt at h3
    cases ho : ops[i]? with
    | none => rw [ho] at h3; cases h3
    | some o =>
      rw [ho] at h3 h5
      have hd : o.dst = some d := by simpa using h5
      unfold skipAct skipListed at h
      refine wpAnyH_take (fuel := fuel + l.length) (i := i) (oi := o) (v := undef) ho hs h1 h2 (fun c a w => by rw [hd]; exact hQ d c a w) (.inr ⟨by simpa using h3, rfl⟩) hS (wpAnyH_skips hs hQ hS l fuel _ _ _ rfl ?_ ?_)
      · rw [hd]; exact h4
      · rw [hd]; exact h
/-- 'wpAnyH_take', the slot that is written named: so that the frame can be laid out anew. -/
theorem wpAnyH_takeD {i d : Nat} {oi : Oper} {v : Value} {fuel : Nat} {listed : Array Bool} {a : Act} {w : World} (hi : ops[i]? = some oi) (hd : oi.dst = some d)
    (hs : Region.noSelect ops = true) (hf : Region.free md ops listed i = true) (hr : (Region.ready md ops listed).contains i = true)
    (hQ : ∀ c a w, Q (.panic c) (a.put (some d) v) w → Q (.panic c) a w) (hy : YieldsIf P ops S oi v a) (hS : S w)
    (h : wpAnyH P md ops Q S fuel (listed.setIfInBounds i true) (a.put (some d) v) w) : wpAnyH P md ops Q S (fuel + 1) listed a w :=
  wpAnyH_take hi hs hf hr (by rw [hd]; exact hQ) hy hS (by rw [hd]; exact h)
end
end Go.Proofs.YtfibaopngpfmjaaGreatDoor
