/- What Read and Write leave: sizes, steps, the key. Conditions: a conversation of moderate size. -/
import Derived.Test.YtjjdaelddicokaaGreatDoorAuWriteA
set_option linter.unusedVariables false
set_option linter.unusedSimpArgs false
namespace Go.Proofs.YtjjdaelddicokaaGreatDoor
open Au (Att Cnv)
namespace Au
theorem msg_le {c : Cnv} (h : Fine c) (n : Int) : (msg c n).length ≤ 5000 := by
  have hu : (user c.key).length ≤ 1000 := h.find sUser
  have hs : (sec c.key).length ≤ 1000 := h.find sSecret
  have hpu := put_le (user c.key)
  have hps := put_le (sec c.key)
  have hcl := cl_le h.ow h.pe
  have hsv := sv_le h.ow h.pe
  have hm := mac_length c
  unfold msg
  split
  · unfold msgChal
    split
    · omega
    · split
      · rw [List.length_append, hm]; omega
      · decide
  · split
    · unfold msgMutual
      split
      · rw [List.length_append]; omega
      · split
        · rw [List.length_append, hm]; omega
        · rw [hm]; omega
    · unfold msgPlain
      split
      · rw [List.length_append]; omega
      · decide
theorem learn_fine {c : Cnv} (h : Fine c) (s : List UInt8) : Fine (learn c s) := by
  unfold learn
  split
  · exact ⟨h.kl, h.kf, h.ow, by show ((s.drop _).take 32).length ≤ 1000; rw [List.length_take]; omega⟩
  · exact h
theorem learn_key (c : Cnv) (s : List UInt8) : (learn c s).key = c.key ∧ (learn c s).step = c.step ∧ (learn c s).proto = c.proto ∧ (learn c s).role = c.role ∧ (learn c s).own = c.own ∧ (learn c s).id = c.id ∧ (learn c s).err = c.err := by
  unfold learn; split <;> exact ⟨rfl, rfl, rfl, rfl, rfl, rfl, rfl⟩
theorem read_fine {c : Cnv} (h : Fine c) : Fine (read c).1 := by
  unfold read
  split
  · exact ⟨h.kl, h.kf, h.ow, h.pe⟩
  · exact h
theorem read_step {c : Cnv} {m : Int} (h : 0 ≤ c.step ∧ c.step ≤ m) : 0 ≤ (read c).1.step ∧ (read c).1.step ≤ m + 1 := by
  unfold read
  split
  · exact ⟨by show 0 ≤ c.step + 1; omega, by show c.step + 1 ≤ m + 1; omega⟩
  · exact ⟨h.1, by show c.step ≤ m + 1; omega⟩
theorem read_key (c : Cnv) : (read c).1.key = c.key := by unfold read; split <;> rfl
theorem read_text {c : Cnv} (h : Fine c) : (read c).2.1.length ≤ 5000 := by
  unfold read
  split
  · exact msg_le h _
  · exact Nat.zero_le _
theorem write_fine {c : Cnv} (h : Fine c) (s : List UInt8) : Fine (write c s).1 := by
  have hl := learn_fine h s
  unfold write
  split
  · split
    · exact ⟨h.kl, h.kf, h.ow, h.pe⟩
    · exact ⟨hl.kl, hl.kf, hl.ow, hl.pe⟩
  · exact h
theorem write_step {c : Cnv} {m : Int} (h : 0 ≤ c.step ∧ c.step ≤ m) (s : List UInt8) : 0 ≤ (write c s).1.step ∧ (write c s).1.step ≤ m + 1 := by
  unfold write
  split
  · split
    · exact ⟨h.1, by show c.step ≤ m + 1; omega⟩
    · exact ⟨by show 0 ≤ c.step + 1; omega, by show c.step + 1 ≤ m + 1; omega⟩
  · exact ⟨h.1, by show c.step ≤ m + 1; omega⟩
theorem write_key (c : Cnv) (s : List UInt8) : (write c s).1.key = c.key := by
  have hk := (learn_key c s).1
  unfold write
  split
  · split
    · rfl
    · exact hk
  · rfl
end Au
end Go.Proofs.YtjjdaelddicokaaGreatDoor
