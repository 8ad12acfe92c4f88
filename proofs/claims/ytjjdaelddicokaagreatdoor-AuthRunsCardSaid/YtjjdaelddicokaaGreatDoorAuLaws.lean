/- Plain laws: what a valid conversation is, and that Start, Read and Write return valid ones. Conditions: those that each fact names. -/
import Derived.Test.YtjjdaelddicokaaGreatDoorAuRight
import Derived.Test.YtjjdaelddicokaaGreatDoorAuPlain
import Derived.Test.YtjjdaelddicokaaGreatDoorAuKeep
import Derived.Test.YtjjdaelddicokaaGreatDoorAuRef3
set_option linter.unusedVariables false
set_option linter.unusedSimpArgs false
namespace Go.Proofs.YtjjdaelddicokaaGreatDoor
open Au (Att Cnv)
namespace Au
/-- A valid conversation. -/
structure Rt (c : Cnv) : Prop where
  hid : 0 ≤ c.id ∧ c.id ≤ 1048575
  kn : known c.proto = true
  ro : c.role = 1 ∨ c.role = 2
  ke : keyE c.key = 0
  ow : c.own.length = 32
  st : 0 ≤ c.step ∧ c.step ≤ len c.proto
  us : c.user = (settled c).user
  ph : (c.phase = phase c ∧ c.err = 0) ∨ (c.phase = 4 ∧ phase c = 2 ∧ c.err = 28)
  pk : if knows c = true then c.peer.length = 32 else c.peer = []
theorem phase_one {c : Cnv} (h : phase c = 1) : c.step ≠ len c.proto ∧ sends c.proto c.role c.step = true := by
  unfold phase at h
  split at h
  · omega
  · rename_i h1
    split at h
    · rename_i h2; exact ⟨h1, h2⟩
    · omega
theorem phase_two {c : Cnv} (h : phase c = 2) : c.step ≠ len c.proto ∧ sends c.proto c.role c.step = false := by
  unfold phase at h
  split at h
  · omega
  · rename_i h1
    split at h
    · omega
    · rename_i h2; exact ⟨h1, by simpa using h2⟩
theorem phase_123 (c : Cnv) : phase c = 1 ∨ phase c = 2 ∨ phase c = 3 := by
  unfold phase; split
  · simp
  · split <;> simp
theorem rt_of {c : Cnv} (h : right c = true) : Rt c := by
  rw [right_eq] at h
  unfold rt1 rt3 rtk at h
  simp only [Bool.and_eq_true, decide_eq_true_eq] at h
  obtain ⟨⟨⟨h1, h2⟩, h3⟩, ⟨⟨h4, h5⟩, h6⟩, h7, h8⟩ := h
  unfold rt7 failed at h7
  have hph := phase_123 c
  refine ⟨h1, h2, h3, h4, h5, h6, ?_, ?_, ?_⟩
  · simp only [Bool.and_eq_true, decide_eq_true_eq] at h7
    exact h7.1.1.2
  · by_cases hf : c.phase = 4 ∧ phase c = 2
    · obtain ⟨a, b⟩ := hf
      rw [decide_eq_true a, decide_eq_true b] at h7
      simp only [Bool.and_true, Bool.true_or, Bool.true_and, Bool.and_eq_true, decide_eq_true_eq, beq_iff_eq] at h7
      exact .inr ⟨a, b, by have := h7.2; simpa using this.symm⟩
    · have hff : (decide (c.phase = 4) && decide (phase c = 2)) = false := by
        by_cases h1 : c.phase = 4
        · rw [decide_eq_false (fun e => hf ⟨h1, e⟩), Bool.and_false]
        · rw [decide_eq_false h1, Bool.false_and]
      rw [hff] at h7
      simp only [Bool.false_or, Bool.and_eq_true, decide_eq_true_eq] at h7
      exact .inl ⟨h7.1.1.1, h7.2⟩
  · split at h8
    · rename_i hk; rw [if_pos hk]; simpa using h8
    · rename_i hk; rw [if_neg hk]; simpa using h8
theorem Rt.right {c : Cnv} (h : Rt c) : right c = true := by
  rw [right_eq]
  unfold rt1 rt3 rtk rt7 failed
  rw [decide_eq_true h.hid, h.kn, decide_eq_true h.ro, decide_eq_true h.ke, decide_eq_true h.ow, decide_eq_true h.st, decide_eq_true h.us]
  have hk : (if knows c = true then decide (c.peer.length = 32) else decide (c.peer = [])) = true := by
    have := h.pk
    split at this
    · rename_i hk; rw [if_pos hk, decide_eq_true this]
    · rename_i hk; rw [if_neg hk, decide_eq_true this]
  rw [hk]
  rcases h.ph with ⟨h1, h2⟩ | ⟨h1, h2, h3⟩
  · have h4 : ¬ c.phase = 4 := by have := phase_123 c; omega
    rw [decide_eq_false h4, decide_eq_true h1, h2]; rfl
  · rw [decide_eq_true h1, decide_eq_true h2, h3]; rfl
theorem len_23 (p : List UInt8) : len p = 2 ∨ len p = 3 := by unfold len; split <;> simp
theorem Rt.st3 {c : Cnv} (h : Rt c) : 0 ≤ c.step ∧ c.step ≤ 3 := ⟨h.st.1, by have := h.st.2; have := len_23 c.proto; omega⟩
theorem knows_succ (c : Cnv) (h : 0 ≤ c.step) : knows { c with step := c.step + 1 } = (knows c || (decide (0 ≤ carries c c.step) && !sends c.proto c.role c.step)) := by
  obtain ⟨k, hk⟩ : ∃ k : Nat, c.step = (k : Int) := ⟨c.step.toNat, by omega⟩
  show (List.range (c.step + 1).toNat).any (fun n => decide (0 ≤ carries c n) && !sends c.proto c.role n) = ((List.range c.step.toNat).any (fun n => decide (0 ≤ carries c n) && !sends c.proto c.role n) || _)
  rw [hk, show ((k : Int) + 1).toNat = k + 1 from by omega, show ((k : Int)).toNat = k from by omega, List.range_succ, List.any_append]
  simp
theorem settled_rt {d : Cnv} (h1 : 0 ≤ d.id ∧ d.id ≤ 1048575) (h2 : known d.proto = true) (h3 : d.role = 1 ∨ d.role = 2) (h4 : keyE d.key = 0) (h5 : d.own.length = 32) (h6 : 0 ≤ d.step ∧ d.step ≤ len d.proto) (h7 : d.err = 0) (h8 : if knows d = true then d.peer.length = 32 else d.peer = []) : Rt (settled d) :=
  ⟨h1, h2, h3, h4, h5, h6, rfl, .inl ⟨rfl, h7⟩, h8⟩
theorem read_rt {c : Cnv} (h : Rt c) : Rt (read c).1 := by
  unfold read
  split
  · rename_i hp
    have hq : phase c = 1 ∧ c.err = 0 := by
      rcases h.ph with ⟨a, b⟩ | ⟨a, b, d⟩
      · exact ⟨by omega, b⟩
      · omega
    obtain ⟨hs, hse⟩ := phase_one hq.1
    refine settled_rt h.hid h.kn h.ro h.ke h.ow ⟨?_, ?_⟩ hq.2 ?_
    · show 0 ≤ c.step + 1
      have := h.st.1; omega
    · show c.step + 1 ≤ len c.proto
      have := h.st.2; omega
    · rw [knows_succ c h.st.1, hse]
      have := h.pk
      simpa using this
  · exact h
theorem learn_or (c : Cnv) (s : List UInt8) : (∃ p, learn c s = { c with peer := p } ∧ p.length ≤ 32 ∧ 0 ≤ carries c c.step) ∨ learn c s = c := by
  unfold learn
  split
  · rename_i h
    exact .inl ⟨_, rfl, by rw [List.length_take]; omega, h.1⟩
  · exact .inr rfl
theorem write_rt {c : Cnv} (h : Rt c) (s : List UInt8) : Rt (write c s).1 := by
  unfold write
  split
  · rename_i hp
    have hq : phase c = 2 ∧ c.err = 0 := by
      rcases h.ph with ⟨a, b⟩ | ⟨a, b, d⟩
      · exact ⟨by omega, b⟩
      · omega
    obtain ⟨hs, hse⟩ := phase_two hq.1
    split
    · exact ⟨h.hid, h.kn, h.ro, h.ke, h.ow, h.st, h.us, .inr ⟨rfl, hq.1, rfl⟩, h.pk⟩
    · rename_i hn
      have hst : 0 ≤ c.step + 1 ∧ c.step + 1 ≤ len c.proto := ⟨by have := h.st.1; omega, by have := h.st.2; omega⟩
      by_cases hc : 0 ≤ carries c c.step
      · have hl : (learn c s).peer.length = 32 := Decidable.byContradiction fun k => hn (.inl ⟨hc, k⟩)
        rcases learn_or c s with ⟨p, e, _, _⟩ | e
        · rw [e] at hl ⊢
          have hl' : p.length = 32 := hl
          refine settled_rt h.hid h.kn h.ro h.ke h.ow hst hq.2 ?_
          have hk := knows_succ c h.st.1
          rw [decide_eq_true hc, hse] at hk
          have hk2 : knows { c with peer := p, step := c.step + 1 } = true := by
            have : knows { c with peer := p, step := c.step + 1 } = knows { c with step := c.step + 1 } := rfl
            rw [this, hk]; simp
          rw [if_pos hk2]
          exact hl'
        · rw [e] at hl ⊢
          refine settled_rt h.hid h.kn h.ro h.ke h.ow hst hq.2 ?_
          have hk := knows_succ c h.st.1
          rw [decide_eq_true hc, hse] at hk
          rw [if_pos (by rw [hk]; simp)]
          exact hl
      · have hl : learn c s = c := by unfold learn; rw [if_neg (fun k => hc k.1)]
        rw [hl]
        refine settled_rt h.hid h.kn h.ro h.ke h.ow hst hq.2 ?_
        rw [knows_succ c h.st.1, decide_eq_false hc]
        have := h.pk
        simpa using this
  · exact h
theorem run_rt : ∀ (k : Nat) (n : Int) (a b : Cnv), Rt a → Rt b → Rt (run k n a b).1 ∧ Rt (run k n a b).2.1 := by
  intro k
  induction k with
  | zero => intro n a b ha hb; exact ⟨ha, hb⟩
  | succ k ih =>
    intro n a b ha hb
    rw [run]
    split
    · exact ih _ _ _ (read_rt ha) (write_rt hb _)
    · split
      · exact ih _ _ _ (write_rt ha _) (read_rt hb)
      · exact ⟨ha, hb⟩
theorem start_is {p : List UInt8} {r : Int} {l : List Att} {n : List UInt8} {R : Cnv} (h : start p r l n = (R, 0)) : R = settled ⟨0, p, r, 0, 0, l, n, [], [], 0⟩ ∧ known p = true ∧ (r = 1 ∨ r = 2) ∧ n.length = 32 ∧ keyE l = 0 := by
  unfold start at h
  split at h
  · cases h
  · rename_i h1
    split at h
    · cases h
    · rename_i h2
      split at h
      · rename_i h3
        exact absurd (Prod.mk.inj h).2 h3
      · rename_i h3
        exact ⟨(Prod.mk.inj h).1.symm, by simpa using h1, by omega, by omega, by omega⟩
theorem start_rt {p : List UInt8} {r : Int} {l : List Att} {n : List UInt8} {R : Cnv} (h : start p r l n = (R, 0)) : Rt R := by
  obtain ⟨rfl, h1, h2, h3, h4⟩ := start_is h
  exact settled_rt ⟨by show (0 : Int) ≤ 0; decide, by show (0 : Int) ≤ 1048575; decide⟩ h1 h2 h4 h3 ⟨by show (0 : Int) ≤ 0; decide, by show (0 : Int) ≤ len p; have := len_23 p; omega⟩ rfl (by rw [if_neg (by unfold knows; simp)])
theorem start_fine (p : List UInt8) (r : Int) (l : List Att) (n : List UInt8) (hl : l.length ≤ 1000) (hfl : ∀ j (h : j < l.length), l[j].name.length ≤ 1000 ∧ l[j].value.length ≤ 1000) (hn : n.length ≤ 1000) : Fine (start p r l n).1 := by
  have hz : Fine zero := ⟨by decide, fun j hj => by simp [zero] at hj, by decide, by decide⟩
  unfold start
  split
  · exact hz
  · split
    · exact hz
    · split
      · exact hz
      · exact ⟨hl, hfl, hn, by show ([] : List UInt8).length ≤ 1000; decide⟩
/-- Two texts that are accepted leave different nonces. -/
theorem write_two {c a b : Cnv} {s t : List UInt8} (ha : write c s = (a, 0)) (hb : write c t = (b, 0)) (hst : s ≠ t) : a.peer ≠ b.peer := by
  have key : ∀ {u : List UInt8} {x : Cnv}, write c u = (x, 0) → x.peer = (learn c u).peer ∧ msg (learn c u) c.step = u := by
    intro u x hx
    unfold write at hx
    split at hx
    · split at hx
      · exact absurd (Prod.mk.inj hx).2 (by decide)
      · rename_i hn
        exact ⟨by rw [← (Prod.mk.inj hx).1]; rfl, Decidable.byContradiction fun k => hn (.inr k)⟩
    · exact absurd (Prod.mk.inj hx).2 (by decide)
  obtain ⟨h1, h2⟩ := key ha
  obtain ⟨h3, h4⟩ := key hb
  intro he
  apply hst
  have hl : learn c s = learn c t := by
    have e : ∀ u, learn c u = { c with peer := (learn c u).peer } := by
      intro u; unfold learn; split <;> rfl
    rw [e s, e t, ← h1, ← h3, he]
  rw [← h2, ← h4, hl]
/-- A text that is refused ends the conversation. -/
theorem write_end {c b : Cnv} {t : List UInt8} (h : write c t = (b, 28)) : b.phase = 4 ∧ b.err = 28 ∧ read b = (b, [], 53) ∧ ∀ s, write b s = (b, 53) := by
  have hb : b.phase = 4 ∧ b.err = 28 := by
    unfold write at h
    split at h
    · split at h
      · rw [← (Prod.mk.inj h).1]; exact ⟨rfl, rfl⟩
      · exact absurd (Prod.mk.inj h).2 (by decide)
    · exact absurd (Prod.mk.inj h).2 (by decide)
  refine ⟨hb.1, hb.2, ?_, fun s => ?_⟩
  · unfold read; rw [if_neg (by rw [hb.1]; decide)]
  · unfold write; rw [if_neg (by rw [hb.1]; decide)]
theorem fair_fine {c : Cnv} (h : fair c = true) : Fine c ∧ c.user.length ≤ 200 ∧ c.proto.length ≤ 200 := by
  unfold fair small at h
  simp only [Bool.and_eq_true, decide_eq_true_eq] at h
  obtain ⟨⟨⟨⟨⟨h1, h2⟩, h3⟩, h4⟩, h5⟩, h6⟩ := h
  refine ⟨⟨by omega, fun j hj => ?_, by omega, by omega⟩, h5, h6⟩
  have := List.all_eq_true.1 h2 c.key[j] (List.getElem_mem hj)
  unfold briefA at this
  simp only [Bool.and_eq_true, decide_eq_true_eq] at this
  omega
end Au
end Go.Proofs.YtjjdaelddicokaaGreatDoor
