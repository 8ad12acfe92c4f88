/- A region that draws its order, whose first operations yield the same value in whatever world: it may be walked in the order of its text. Conditions: the closed fact that the order of the text is one of those that may be drawn, and that what stands behind those operations has one order. -/
import Derived.Test.YtjjdaelddicokaaGreatDoorKit
import Derived.StillTail
set_option linter.unusedVariables false
namespace Go.Proofs.YtjjdaelddicokaaGreatDoor
open Go.RowKit

/-- The operations of a list yield, one behind the other, each in whatever world. -/
def wpPure (P : Program) (ops : Array Oper) (Q : Act → Prop) : List Oper → Act → Prop
  | [], a => Q a
  | o :: rest, a => ∃ v, Yields P ops o v a ∧ wpPure P ops Q rest (a.put o.dst v)

theorem wpPure_nil {P : Program} {ops : Array Oper} {Q : Act → Prop} {a : Act} (h : Q a) : wpPure P ops Q [] a := h
theorem wpPure_step {P : Program} {ops : Array Oper} {Q : Act → Prop} {a : Act} {o : Oper} {rest : List Oper} (v : Value) (hy : Yields P ops o v a)
    (h : ∀ K : Act → Prop, (∀ a, wpPure P ops Q rest a → K a) → K (a.put o.dst v)) : wpPure P ops Q (o :: rest) a :=
  ⟨v, hy, h _ fun _ h => h⟩

theorem wpAny_pure {P : Program} {ops : Array Oper} {md : Region.Mode} {Q : Exit → Act → World → Prop} {g n : Nat} {w : World} (hsel : Region.noSelect ops = true)
    (hQ : ∀ c a a' w, Q (.panic c) a w → Q (.panic c) a' w) (tl : List Oper) (htl : ∀ j, tl[j]? = ops[n + j]?) (hg : tl.length = g) :
    ∀ (l : List Oper) (k : Nat) (listed : Array Bool) (a : Act), (∀ j, j < l.length → l[j]? = ops[k + j]?) → k + l.length = n →
      Region.lexHead md ops g l.length k listed = true → wpPure P ops (fun a' => wpList P ops Q tl a' w) l a → wpAny P md ops Q (l.length + g) listed a w
  | [], k, listed, a, _, hk, hB, h => by
    have : k = n := by simpa using hk
    subst this
    subst hg
    rw [List.length_nil, Nat.zero_add]
    exact wpAny_of_seq tl k listed a w htl (by simpa [Region.lexHead] using hB) h
  | o :: l, k, listed, a, hl, hk, hB, h => by
    have h0 : ops[k]? = some o := by simpa using (hl 0 (by simp)).symm
    simp only [List.length_cons, Region.lexHead, Bool.and_eq_true] at hB
    obtain ⟨⟨hr, hf⟩, hB'⟩ := hB
    obtain ⟨v, hy, hK⟩ := h
    rw [List.length_cons, show l.length + 1 + g = (l.length + g) + 1 from by omega]
    exact wpAny_take h0 hsel hf hr (fun c a' w' hp => hQ c _ _ w' hp) hy
      (wpAny_pure hsel hQ tl htl hg l (k + 1) _ _ (fun j hj => by have := hl (j + 1) (by simp; omega); simpa [Nat.add_assoc, Nat.add_comm 1 j] using this) (by simp only [List.length_cons] at hk; omega) hB' hK)

def lexPureB (ops : Array Oper) (n : Nat) : Bool :=
  Region.noSelect ops && decide (n ≤ ops.size) && Region.lexHead .any ops (ops.size - n) n 0 (Array.replicate ops.size false)

theorem wp_region_pure_tail {P : Program} {id : Nat} {Q : Exit → Act → World → Prop} {a : Act} {w : World} {l : List Oper} (n : Nat) (hm : P.follows .mixedOrders = true) (hB : lexPureB l.toArray n = true)
    (hQ : ∀ c a a' w, Q (.panic c) a w → Q (.panic c) a' w)
    (h : wpPure P l.toArray (fun a' => wpList P l.toArray Q (l.drop n) a' w.drew) (l.take n) a) : (Code.region id l.toArray true).wp P Q a w := by
  simp only [lexPureB, Bool.and_eq_true, decide_eq_true_eq] at hB
  obtain ⟨⟨hsel, hn⟩, hlex⟩ := hB
  have hn' : n ≤ l.length := by simpa using hn
  have htl : (l.take n).length = n := by simp; omega
  have hdl : (l.drop n).length = l.toArray.size - n := by simp
  refine wp_region_any hm ?_
  have H := wpAny_pure (md := .any) (g := l.toArray.size - n) (n := n) (w := w.drew) hsel hQ (l.drop n) (fun j => by simp [List.getElem?_drop]) hdl (l.take n) 0 (Array.replicate l.toArray.size false) a
    (fun j hj => by
      have hj' : j < n := by rw [htl] at hj; exact hj
      simp [hj']) (by rw [htl]; omega) (by rw [htl]; exact hlex) h
  rw [htl, show n + (l.toArray.size - n) = l.toArray.size by simp; omega] at H
  exact H
end Go.Proofs.YtjjdaelddicokaaGreatDoor
