/- As Pure's wp_region_pure_tail, under the panic condition that a function's own post meets by itself. Conditions: the closed fact on the order. -/
import Derived.Test.YtjjdaelddicokaaGreatDoorPure
set_option linter.unusedVariables false
namespace Go.Proofs.YtjjdaelddicokaaGreatDoor
open Go.RowKit
theorem wpAny_pure2 {P : Program} {ops : Array Oper} {md : Region.Mode} {Q : Exit → Act → World → Prop} {g n : Nat} {w : World} (hsel : Region.noSelect ops = true)
    (hQ : ∀ c a d v w, Q (.panic c) (Act.put a d v) w → Q (.panic c) a w) (tl : List Oper) (htl : ∀ j, tl[j]? = ops[n + j]?) (hg : tl.length = g) :
    ∀ (l : List Oper) (k : Nat) (listed : Array Bool) (a : Act), (∀ j, j < l.length → l[j]? = ops[k + j]?) → k + l.length = n →
      Region.lexHead md ops g l.length k listed = true → wpPure P ops (fun a' => wpList P ops Q tl a' w) l a → wpAny P md ops Q (l.length + g) listed a w
  | [], k, listed, a, _, hk, hB, h => by
    have : k = n := by simpa using hk
    subst this
    subst hg
    rw [List.length_nil, Nat.zero_add]
    exact wpAny_of_seq tl k listed a w htl (by simpa [Region.lexHead] using hB) h
  | o :: l, k, listed, a, hl, hk, hB, h => by
    have h0 : ops[k]? = some o := by simpa using (hl 0 (by simp)).symm
    simp only [List.length_cons, Region.lexHead, Bool.and_eq_true] at hB
    obtain ⟨⟨hr, hf⟩, hB'⟩ := hB
    obtain ⟨v, hy, hK⟩ := h
    rw [List.length_cons, show l.length + 1 + g = (l.length + g) + 1 from by omega]
    exact wpAny_take h0 hsel hf hr (fun c a' w' hp => hQ c a' o.dst v w' hp) hy
      (wpAny_pure2 hsel hQ tl htl hg l (k + 1) _ _ (fun j hj => by have := hl (j + 1) (by simp; omega); simpa [Nat.add_assoc, Nat.add_comm 1 j] using this) (by simp only [List.length_cons] at hk; omega) hB' hK)
theorem wp_region_pure_tail2 {P : Program} {id : Nat} {Q : Exit → Act → World → Prop} {a : Act} {w : World} {l : List Oper} (n : Nat) (hm : P.follows .mixedOrders = true) (hB : lexPureB l.toArray n = true)
    (hQ : ∀ c a d v w, Q (.panic c) (Act.put a d v) w → Q (.panic c) a w)
    (h : wpPure P l.toArray (fun a' => wpList P l.toArray Q (l.drop n) a' w.drew) (l.take n) a) : (Code.region id l.toArray true).wp P Q a w := by
  simp only [lexPureB, Bool.and_eq_true, decide_eq_true_eq] at hB
  obtain ⟨⟨hsel, hn⟩, hlex⟩ := hB
  have hn' : n ≤ l.length := by simpa using hn
  have htl : (l.take n).length = n := by simp; omega
  have hdl : (l.drop n).length = l.toArray.size - n := by simp
  refine wp_region_any hm ?_
  have H := wpAny_pure2 (md := .any) (g := l.toArray.size - n) (n := n) (w := w.drew) hsel hQ (l.drop n) (fun j => by simp [List.getElem?_drop]) hdl (l.take n) 0 (Array.replicate l.toArray.size false) a
    (fun j hj => by
      have hj' : j < n := by rw [htl] at hj; exact hj
      simp [hj']) (by rw [htl]; omega) (by rw [htl]; exact hlex) h
  rw [htl, show n + (l.toArray.size - n) = l.toArray.size by simp; omega] at H
  exact H
end Go.Proofs.YtjjdaelddicokaaGreatDoor
