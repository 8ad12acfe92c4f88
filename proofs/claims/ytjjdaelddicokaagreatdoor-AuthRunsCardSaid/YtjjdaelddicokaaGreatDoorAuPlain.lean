/- The reference's knowledge of the nonce is the product's. Conditions: a known protocol, a role, at most three steps. -/
import Derived.Test.YtjjdaelddicokaaGreatDoorAuRef2
set_option linter.unusedVariables false
namespace Go.Proofs.YtjjdaelddicokaaGreatDoor
open Au (Att Cnv)
namespace Au
theorem knows_eq {c : Cnv} (hp : known c.proto = true) (hr : c.role = 1 ∨ c.role = 2) (hs : 0 ≤ c.step ∧ c.step ≤ 3) : knows c = rknows c := by
  obtain ⟨id, proto, role, phase, step, key, own, peer, user', err⟩ := c
  simp only at hp hr hs
  have hst : step = 0 ∨ step = 1 ∨ step = 2 ∨ step = 3 := by omega
  unfold known at hp
  simp only [Bool.or_eq_true, decide_eq_true_eq] at hp
  have n1 : ¬ sMutual = sChal := by decide
  have n2 : ¬ sPlain = sChal := by decide
  have n3 : ¬ sPlain = sMutual := by decide
  have n4 : ¬ sChal = sMutual := by decide
  rcases hp with (rfl | rfl) | rfl <;> rcases hr with rfl | rfl <;> rcases hst with rfl | rfl | rfl | rfl
  all_goals simp [knows, rknows, carries, sends, even, first, List.range, List.range.loop, n1, n2, n3, n4]
end Au
end Go.Proofs.YtjjdaelddicokaaGreatDoor
