/- Mounts in memory whose blocks pass a test: what stores into boxes that fail it leave alone. Conditions: none beyond those that each fact names. -/
import Derived.Test.YtganenaaglfdnaaMntCopy
set_option linter.unusedVariables false
set_option linter.unusedSimpArgs false
namespace Go.Proofs.Ytganenaaglfdnaa
open Go.RowKit
/-- A list of mounts in memory; the blocks of its row and of its unions pass P. -/
def MIn (w : World) (P : Nat → Prop) (v : Value) (ms : List Mnt) : Prop :=
  ∃ rs : List (Mnt × Value), rs.map (·.1) = ms ∧ (∀ r ∈ rs, Tgts w r.2 r.1.to ∧ (r.1.to ≠ [] → ∃ b, r.2.ownBlock = some b ∧ P b)) ∧
    ∃ ao cap, v = .slice ao rs.length cap ∧ rs.length ≤ cap ∧ (ao = none → cap = 0) ∧ ∀ a, ao = some a → (rs ≠ [] → P a.block) ∧ ∀ j u, (fl mne rs)[j]? = some u → w.cell? (a.add j) = some u ∧ (a.add j).block < w.heap.size
theorem add_block (a : Addr) (j : Nat) : (a.add j).block = a.block := by
  unfold Addr.add; split <;> rfl
theorem Mnts.inn {w : World} {v : Value} {ms : List Mnt} (h : Mnts w v ms) : MIn w (· < w.heap.size) v ms := by
  obtain ⟨rs, rfl, ht, ao, cap, rfl, hc, hn, hcell⟩ := h.rows
  refine ⟨rs, rfl, fun r hr => ⟨ht r hr, fun hn => ?_⟩, ao, cap, by rw [List.length_map], by rw [List.length_map] at hc; exact hc, hn, fun a ha => ⟨fun hne => ?_, hcell a ha⟩⟩
  · obtain ⟨b, e1, e2⟩ := (ht r hr).block hn
    exact ⟨b, e1, e2⟩
  · cases rs with
    | nil => exact absurd rfl hne
    | cons x l =>
      have := (hcell a ha 0 _ (show (fl mne (x :: l))[0]? = some (.int .i64 x.1.fr.dev) from rfl)).2
      rwa [add_block] at this
theorem MIn.mnts {w : World} {P : Nat → Prop} {v : Value} {ms : List Mnt} (h : MIn w P v ms) : Mnts w v ms := by
  obtain ⟨rs, rfl, ht, ao, cap, rfl, hc, hn, hcell⟩ := h
  have hl : (rs.map (·.1)).length = rs.length := List.length_map _
  refine ⟨ao, cap, by rw [hl], by rw [hl]; exact hc, hn, fun j hj => ?_⟩
  rw [hl] at hj
  cases ao with
  | none => have := hn rfl; omega
  | some a =>
    have hx := fun i (hi : i < 6) u (hu : (mne rs[j])[i]? = some u) => (hcell a rfl).2 (j * 6 + i) u ((fl_get mne mne6 rs j i hj hi).trans hu)
    have hlt := (hx 0 (by omega) _ rfl).2
    have h0 := ((hcell a rfl).2 (0 * 6 + 0) _ ((fl_get mne mne6 rs 0 0 (by omega) (by omega)).trans rfl)).1
    obtain ⟨b, off, sp⟩ := a
    obtain rfl : sp = none := World.cell?_spot (a := ⟨b, off, sp⟩) h0
    simp only [Addr.add_lit] at hx hlt
    simp only [List.getElem_map]
    refine ⟨b, off, rfl, hlt, ?_, rs[j].2, ?_, (ht _ (List.getElem_mem hj)).1⟩
    · exact ⟨(hx 0 (by omega) _ rfl).1, (hx 1 (by omega) _ rfl).1, (hx 2 (by omega) _ rfl).1, (hx 3 (by omega) _ rfl).1, (hx 4 (by omega) _ rfl).1⟩
    · exact (hx 5 (by omega) _ rfl).1
theorem MIn.below {w w' : World} {P : Nat → Prop} {v : Value} {ms : List Mnt} (h : MIn w P v ms) (hb : Below w.heap.size w w') : MIn w' P v ms := by
  obtain ⟨rs, rfl, ht, ao, cap, rfl, hc, hn, hcell⟩ := h
  refine ⟨rs, rfl, fun r hr => ⟨(ht r hr).1.below hb, (ht r hr).2⟩, ao, cap, rfl, hc, hn, fun a ha => ⟨(hcell a ha).1, fun j u hu => ?_⟩⟩
  obtain ⟨h1, h2⟩ := (hcell a ha).2 j u hu
  exact ⟨by rw [hb.cell (p := a.add j) h2]; exact h1, Nat.lt_of_lt_of_le h2 hb.size⟩
theorem MIn.weak {w : World} {P P' : Nat → Prop} {v : Value} {ms : List Mnt} (h : MIn w P v ms) (hp : ∀ b, P b → b < w.heap.size → P' b) : MIn w P' v ms := by
  obtain ⟨rs, rfl, ht, ao, cap, rfl, hc, hn, hcell⟩ := h
  refine ⟨rs, rfl, fun r hr => ⟨(ht r hr).1, fun hne => ?_⟩, ao, cap, rfl, hc, hn, fun a ha => ⟨fun hne => ?_, (hcell a ha).2⟩⟩
  · obtain ⟨b, e1, e2⟩ := (ht r hr).2 hne
    obtain ⟨b', e1', e3⟩ := (ht r hr).1.block hne
    rw [e1] at e1'; cases e1'
    exact ⟨b, e1, hp b e2 e3⟩
  · refine hp _ ((hcell a ha).1 hne) ?_
    cases rs with
    | nil => exact absurd rfl hne
    | cons x l =>
      have := ((hcell a ha).2 0 _ (show (fl mne (x :: l))[0]? = some (.int .i64 x.1.fr.dev) from rfl)).2
      rwa [add_block] at this
/-- Behind a store into a box that fails the test. -/
theorem MIn.grown {w w' : World} {P : Nat → Prop} {v : Value} {ms : List Mnt} {p : Nat} (h : MIn w P v ms) (hg : w.grownBy w' (some p)) (hP : ¬ P p) : MIn w' P v ms := by
  obtain ⟨rs, rfl, ht, ao, cap, rfl, hc, hn, hcell⟩ := h
  refine ⟨rs, rfl, fun r hr => ⟨(ht r hr).1.keep hg.size (fun b hb hn => ?_), (ht r hr).2⟩, ao, cap, rfl, hc, hn, fun a ha => ⟨(hcell a ha).1, fun j u hu => ?_⟩⟩
  · obtain ⟨b', e1, e2⟩ := (ht r hr).2 hn
    rw [hb] at e1; cases e1
    obtain ⟨b', e1', hlt⟩ := (ht r hr).1.block hn
    rw [hb] at e1'; cases e1'
    exact hg.block b hlt (fun e => hP (by cases e; exact e2))
  · obtain ⟨h1, h2⟩ := (hcell a ha).2 j u hu
    have hne : rs ≠ [] := fun e => by rw [e] at hu; simp [fl] at hu
    have hb := (hcell a ha).1 hne
    refine ⟨?_, Nat.lt_of_lt_of_le h2 hg.size⟩
    rw [World.cell?_of_block (w := w) (a := a.add j) (hg.block _ h2 (fun e => hP (by rw [add_block] at e; cases e; exact hb)))]
    exact h1
theorem MOwn.inn {w : World} {base : Nat} {P P' : Nat → Prop} {v : Value} {rs : List (Mnt × Value)} (h : MOwn w base P v rs) (hp : ∀ b, P b → b < w.heap.size → P' b) (hb : ∀ b, base ≤ b → P' b) : MIn w P' v (rs.map (·.1)) := by
  obtain ⟨ho, ht⟩ := h
  have ht' : ∀ r ∈ rs, Tgts w r.2 r.1.to ∧ (r.1.to ≠ [] → ∃ b, r.2.ownBlock = some b ∧ P' b) := fun r hr => ⟨(ht r hr).1, fun hn => by
    obtain ⟨b, e1, e2, e3⟩ := (ht r hr).2 hn
    obtain ⟨b', e1', hlt⟩ := (ht r hr).1.block hn
    rw [e1] at e1'; cases e1'
    exact ⟨b, e1, hp b e2 hlt⟩⟩
  refine ⟨rs, rfl, ht', ?_⟩
  rcases ho.2 with ⟨rfl, h0⟩ | ⟨g, cap, cur, rfl, hbg, hg, hnc, _⟩
  · exact ⟨none, 0, by rw [h0], by omega, fun _ => rfl, fun a ha => nomatch ha⟩
  · refine ⟨some ⟨g, 0, none⟩, cap, rfl, hnc, (fun h => nomatch h), fun a ha => ?_⟩
    cases ha
    refine ⟨fun _ => hb g hbg, fun j u hu => ⟨ho.cells (g := g) rfl j u hu, ?_⟩⟩
    rw [add_block]; exact row_lt hg
theorem MList.inn {w : World} {base : Nat} {P P' : Nat → Prop} {v : Value} {ms : List Mnt} (h : MList w base P v ms) (hp : ∀ b, P b → b < w.heap.size → P' b) (hb : ∀ b, base ≤ b → P' b) : MIn w P' v ms := by
  obtain ⟨rs, rfl, h⟩ := h; exact h.inn hp hb
theorem MIn.form {w : World} {P : Nat → Prop} {v : Value} {ms : List Mnt} (h : MIn w P v ms) : ∃ a c, v = .slice a ms.length c := by
  obtain ⟨rs, rfl, _, ao, cap, rfl, _⟩ := h
  exact ⟨ao, cap, by rw [List.length_map]⟩
theorem min_nil (w : World) (P : Nat → Prop) : MIn w P (.slice none 0 0) [] := ⟨[], rfl, (fun r hr => nomatch hr), none, 0, rfl, Nat.le_refl _, (fun _ => rfl), fun a ha => nomatch ha⟩
end Go.Proofs.Ytganenaaglfdnaa
