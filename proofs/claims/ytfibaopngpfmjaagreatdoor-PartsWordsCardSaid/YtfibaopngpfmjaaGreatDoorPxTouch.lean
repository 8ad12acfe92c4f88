/- The scanner with its tokens; what touches and symbol return at a word. Conditions: a program of at most 10000 bytes; ahead of a word that is not the first one a blank. -/
import Derived.Test.YtfibaopngpfmjaaGreatDoorPxWordA
set_option linter.unusedVariables false
set_option linter.unusedSimpArgs false
namespace Go.Proofs.YtfibaopngpfmjaaGreatDoor
open Go.RowKit Go.Proofs
theorem toks_length (l : List Tok) : (toks l).length = l.length * 4 := by
  induction l with
  | nil => rfl
  | cons t l ih =>
    have : toks (t :: l) = tokv t ++ toks l := rfl
    rw [this, List.length_append, ih]
    simp [tokv]; omega
theorem toks_append (a b : List Tok) : toks (a ++ b) = toks a ++ toks b := by simp [toks]
theorem toks_get (l : List Tok) (j : Nat) (t : Tok) (h : l[j]? = some t) (f : Nat) (hf : f < 4) : (toks l)[j * 4 + f]? = (tokv t)[f]? := by
  induction l generalizing j with
  | nil => simp at h
  | cons x l ih =>
    have e : toks (x :: l) = tokv x ++ toks l := rfl
    have e4 : (tokv x).length = 4 := rfl
    rw [e]
    cases j with
    | zero =>
      simp at h; subst h
      rw [List.getElem?_append_left (by omega)]
      simp
    | succ j =>
      simp at h
      rw [List.getElem?_append_right (by omega), e4, show (j + 1) * 4 + f - 4 = j * 4 + f from by omega]
      exact ih j h
/-- The scanner, its tokens in a row of the call's own. -/
def ScS (W : World) (g B : Nat) (s : List UInt8) (at_ en : Nat) (l : List Tok) : Prop :=
  ∃ tv, ScRow W g s at_ en tv ∧ W.ownsRow B 132 4 tv l.length (toks l) ∧ g < B
theorem own_form {w : World} {B : Nat} {e : TypeId} {z : Nat} {v : Value} {n : Nat} {xs : List Value} (h : w.ownsRow B e z v n xs) : ∃ ao cap, v = .slice ao n cap ∧ (n ≠ 0 → ∃ k, ao = some ⟨k, 0, none⟩ ∧ ∀ j x, xs[j]? = some x → w.cell? ⟨k, j, none⟩ = some x) := by
  have h0 := h
  rcases h.2 with ⟨rfl, rfl⟩ | ⟨g, cap, cur, rfl, r⟩
  · exact ⟨none, 0, rfl, fun h => absurd rfl h⟩
  · refine ⟨_, cap, rfl, fun _ => ⟨g, rfl, fun j x hx => ?_⟩⟩
    have := h0.cells (g := g) rfl j x hx
    rw [show (⟨g, 0, none⟩ : Addr).add j = ⟨g, j, none⟩ from by cases j <;> simp [Addr.add]] at this
    exact this
set_option maxHeartbeats 2000000 in
theorem touches_any (g B : Nat) (s : List UInt8) (at_ en : Nat) (l : List Tok) (w : World) (h : ScS w g B s at_ en l) (hl : l = [] ∨ en ≠ at_) (hn : l.length ≤ 1000) (hk : ∀ t ∈ l, t.kind = 1) :
    Calls Tryz.prog 89 #[.pointer (some ⟨g, 0, none⟩)] w fun e w' => e = .returned (.bool false) ∧ Below w.heap.size w w' := by
  obtain ⟨tv, hr, hown, hgB⟩ := h
  obtain ⟨⟨r0, r1, r2, r3, r4, r5, r6⟩, _⟩ := hr.reads
  obtain ⟨ao, cap, rfl, hc⟩ := own_form hown
  have HB := Lib.hid (fun (n : Nat) => show Below w.heap.size w (w.drewN n) from below_drewN w n)
  by_cases h0 : l.length = 0
  · rw [h0] at r2
    clear hc hown hr hl hn h0 hk
    go_enter Tryz.func89, Tryz.ntmps89
    go_upto_region 2 with fail
    go_quiet (fail)
    go_wp2_with fail
    go_ret
    exact ⟨rfl, HB.out _⟩
  · obtain ⟨k, rfl, hcell⟩ := hc h0
    have hne : ((en : Int) == (at_ : Int)) = false := by
      rcases hl with rfl | hl
      · exact absurd rfl h0
      · simp only [beq_eq_false_iff_ne, ne_eq]; omega
    obtain ⟨n, hn2⟩ : ∃ n, l.length = n + 1 := ⟨l.length - 1, by omega⟩
    obtain ⟨t, ht⟩ : ∃ t, l[n]? = some t := ⟨l[n]'(by omega), List.getElem?_eq_getElem (by omega)⟩
    have htk : t.kind = 1 := hk t (List.mem_of_getElem? ht)
    have c0 : w.cell? ⟨k, n * 4, none⟩ = some (.int .i64 1) := by
      rw [← htk]
      exact hcell (n * 4) _ (by have := toks_get l n t ht 0 (by omega); simpa [tokv] using this)
    rw [hn2] at r2 hn
    have i1 : (0 : Int) < ((n + 1 : Nat) : Int) := by omega
    have i2 : IntKind.i64.wrap (n : Int) = (n : Int) := IntWalk.i64_in _ (by omega)
    have i3 : (0 : Int) ≤ (n : Int) := by omega
    have i4 : (n : Int) < (n : Int) + 1 := by omega
    have i5 : (n : Int) ≤ 1000 := by omega
    clear hcell hown hr hl hc h0 ht hn2 hk htk
    go_enter Tryz.func89, Tryz.ntmps89
    go_upto_region 2 with fail
    go_quiet (fail)
    go_wp2_with fail
    go_ret
    exact ⟨rfl, HB.out _⟩
end Go.Proofs.YtfibaopngpfmjaaGreatDoor
