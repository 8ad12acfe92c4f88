/- Slices of texts in memory, and what slices.Index and Contains return for them. Conditions: the slice holds the given texts; at most 10^6 of them. -/
import Derived.Test.YtjjdaelddicokaaGreatDoorKit
import Derived.ArgAppend
import Derived.Deep.AppendLies
import Derived.Deep.Onto
set_option linter.unusedVariables false
set_option linter.unusedSimpArgs false
namespace Go.Proofs.YtjjdaelddicokaaGreatDoor
open Go.RowKit
/-- A slice of texts in memory. -/
def Strs (w : World) (v : Value) (ss : List ByteArray) : Prop :=
  (v = .slice none 0 0 ∧ ss = []) ∨ (∃ a cap, v = .slice (some a) 0 cap ∧ ss = []) ∨ ∃ b off cap, v = .slice (some ⟨b, off, none⟩) ss.length cap ∧ b < w.heap.size ∧ ss.length ≤ cap ∧ ∀ j (h : j < ss.length), w.cell? ⟨b, off + j, none⟩ = some (.string ss[j])
theorem Strs.below {w w' : World} {v : Value} {ss : List ByteArray} (h : Strs w v ss) (hb : Below w.heap.size w w') : Strs w' v ss := by
  rcases h with h | h | ⟨b, off, cap, hv, hlt, hc, hcell⟩
  · exact .inl h
  · exact .inr (.inl h)
  · exact .inr <| .inr ⟨b, off, cap, hv, Nat.lt_of_lt_of_le hlt hb.size, hc, fun j h => by rw [hb.cell (p := ⟨b, off + j, none⟩) hlt]; exact hcell j h⟩
theorem Strs.setCell {w : World} {v : Value} {ss : List ByteArray} (h : Strs w v ss) {p : Addr} (x : Value) (hne : ∀ g, v.ownBlock = some g → g ≠ p.block) : Strs (w.setCell p x) v ss := by
  rcases h with h | h | ⟨b, off, cap, hv, hlt, hc, hcell⟩
  · exact .inl h
  · exact .inr (.inl h)
  · refine .inr <| .inr ⟨b, off, cap, hv, by simpa using hlt, hc, fun j h => ?_⟩
    rw [World.cell?_setCell_other]
    · exact hcell j h
    · intro e; exact hne b (by rw [hv]; rfl) (by rw [e])
theorem str_ne {a b : ByteArray} (h : ¬ a = b) : (a.toList == b.toList) = false := by
  rw [beq_eq_false_iff_ne, ByteArray.toList_eq, ByteArray.toList_eq]
  intro e; exact h (by cases a; cases b; simp at e; rw [e])

def idx (x : ByteArray) : List ByteArray → Int
  | [] => -1
  | y :: l => if y = x then 0 else if idx x l < 0 then -1 else idx x l + 1
theorem idx_nonneg (x : ByteArray) : ∀ l, (0 ≤ idx x l ↔ x ∈ l) ∧ -1 ≤ idx x l := by
  intro l
  induction l with
  | nil => exact ⟨by simp [idx], by simp [idx]⟩
  | cons y l ih =>
    rw [idx]
    by_cases h : y = x
    · rw [if_pos h]; exact ⟨by simp [h], by omega⟩
    · rw [if_neg h]
      have e : x ∈ y :: l ↔ x ∈ l := by
        rw [List.mem_cons]; exact ⟨fun h' => h'.elim (fun e => absurd e.symm h) id, .inr⟩
      by_cases h2 : idx x l < 0
      · rw [if_pos h2]; refine ⟨?_, by omega⟩
        rw [e, ← ih.1]; omega
      · rw [if_neg h2]; refine ⟨?_, by omega⟩
        rw [e, ← ih.1]; omega
theorem idx_at (x : ByteArray) : ∀ (l : List ByteArray) (k : Nat) (h : k < l.length), (∀ j (hj : j < k), ¬ l[j]'(by omega) = x) → l[k] = x → idx x l = k := by
  intro l
  induction l with
  | nil => intro k h; simp at h
  | cons y l ih =>
    intro k h hn he
    rw [idx]
    cases k with
    | zero => rw [if_pos (by simpa using he)]; rfl
    | succ k =>
      have h0 := hn 0 (by omega)
      rw [if_neg (by simpa using h0)]
      have := ih k (by simpa using h) (fun j hj => by simpa using hn (j + 1) (by omega)) (by simpa using he)
      rw [this]
      rw [if_neg (by omega)]
      omega
theorem idx_none (x : ByteArray) (l : List ByteArray) (h : ∀ j (hj : j < l.length), ¬ l[j] = x) : idx x l = -1 := by
  have := idx_nonneg x l
  have hx : ¬ x ∈ l := by
    intro hx
    obtain ⟨j, hj, e⟩ := List.getElem_of_mem hx
    exact h j hj e
  have := mt this.1.1 hx
  omega

set_option maxHeartbeats 1000000 in
theorem sindex_any (v : Value) (ss : List ByteArray) (x : ByteArray) (w : World) (hv : Strs w v ss) (hl : ss.length ≤ 1000000) :
    Calls Tryz.prog 50 #[v, .string x] w fun e w' => e = .returned (.int .i64 (idx x ss)) ∧ w = w' := by
  rcases hv with ⟨rfl, rfl⟩ | ⟨a, cap, rfl, rfl⟩ | ⟨b, off, cap, rfl, hlt, hc, hcell⟩
  · go_enter Tryz.func50, Tryz.ntmps50
    go_wp2_with fail
    refine wp_loop_rounds 1 ?_
    rw [rounds_succ]
    go_wp2_with fail
    go_ret
    exact ⟨rfl, rfl⟩
  · go_enter Tryz.func50, Tryz.ntmps50
    go_wp2_with fail
    refine wp_loop_rounds 1 ?_
    rw [rounds_succ]
    go_wp2_with fail
    go_ret
    exact ⟨rfl, rfl⟩
  · have HC := Lib.hid hcell
    have HI := Lib.hid (idx_at x ss)
    have HN := Lib.hid (idx_none x ss)
    clear hcell
    go_enter Tryz.func50, Tryz.ntmps50
    go_wp2_with fail
    go_loop [8] (fun i => ∃ k : Nat, k ≤ ss.length ∧ i = .int .i64 (k : Int) ∧ Hid (∀ j (hj : j < k) (hk : k ≤ ss.length), ¬ ss[j]'(by omega) = x)) (fun i => ss.length - (intOf i).toNat)
    case atStart => exact ⟨0, by omega, rfl, fun j hj => by omega⟩
    case round =>
      obtain ⟨k, hk, rfl, hn⟩ := hrel
      by_cases hlt : k < ss.length
      · have c := HC.out k hlt
        by_cases he : ss[k] = x
        · have HE := Lib.hid (HI.out k hlt (fun j hj => hn.out j hj hk) he)
          rw [he] at c
          go_wp2_with fail
          go_ret
          exact ⟨by rw [HE.out]; rfl, rfl⟩
        · have HS := Lib.hid (show ∀ j (hj : j < k + 1) (hk : k + 1 ≤ ss.length), ¬ ss[j]'(by omega) = x from fun j hj hk' => by
            rcases Nat.lt_or_ge j k with h' | h'
            · exact hn.out j h' hk
            · obtain rfl : j = k := by omega
              exact he)
          have e1 := str_ne (fun h => he h.symm)
          clear he
          go_wp2_with fail
          go_round
          case rel => exact ⟨k + 1, by omega, by go_num, HS⟩
          case measure => simp [intOf]; omega
      · obtain rfl : k = ss.length := by omega
        have HE := Lib.hid (HN.out fun j hj => hn.out j hj (Nat.le_refl _))
        go_wp2_with fail
        go_ret
        exact ⟨by rw [HE.out]; rfl, rfl⟩
/-- A text is among others. -/
def has (x : ByteArray) (ss : List ByteArray) : Bool := decide (0 ≤ idx x ss)
theorem has_iff (x : ByteArray) (ss : List ByteArray) : has x ss = true ↔ x ∈ ss := by unfold has; rw [decide_eq_true_eq]; exact (idx_nonneg x ss).1
theorem scontains_any (v : Value) (ss : List ByteArray) (x : ByteArray) (w : World) (hv : Strs w v ss) (hl : ss.length ≤ 1000000) :
    Calls Tryz.prog 31 #[v, .string x] w fun e w' => e = .returned (.bool (has x ss)) ∧ w = w' := by
  have HC := Lib.hid (sindex_any v ss x w hv hl)
  have HD := Lib.hid (show has x ss = decide (0 ≤ idx x ss) from rfl)
  clear hv
  go_enter Tryz.func31, Tryz.ntmps31
  go_wp2_with fail
  refine HC.out.mono ?_; rintro e w1 ⟨rfl, rfl⟩
  go_wp2_with fail
  go_ret
  exact ⟨by rw [HD.out]; rfl, rfl⟩

theorem strs_own {w : World} {base : Nat} {v : Value} {ss : List ByteArray} (h : w.ownsRow base 9 1 v ss.length (ss.map Value.string)) : Strs w v ss := by
  rcases h.2 with ⟨rfl, h0⟩ | ⟨g, cap, cur, rfl, hb, hg, hnc, hcm, hcs, htk⟩
  · exact .inl ⟨rfl, List.eq_nil_of_length_eq_zero h0⟩
  · refine .inr <| .inr ⟨g, 0, cap, rfl, ?_, hnc, fun j hj => ?_⟩
    · rcases Nat.lt_or_ge g w.heap.size with h' | h'
      · exact h'
      · simp [Array.getElem?_eq_none h'] at hg
    · have := h.cells (g := g) rfl j (.string ss[j]) (by simp [hj])
      rw [Addr.add_lit] at this
      exact this
theorem map_oneCell (ss : List ByteArray) : ∀ u ∈ ss.map Value.string, u.oneCell' = true := by
  intro u hu; simp only [List.mem_map] at hu; obtain ⟨_, _, rfl⟩ := hu; rfl

end Go.Proofs.YtjjdaelddicokaaGreatDoor
