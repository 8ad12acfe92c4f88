/- Channels, unions and mounts in memory, and what the same, valid, brief of both sides return. Conditions: none beyond those that each fact names. -/
import Derived.Test.YtganenaaglfdnaaMntMath
set_option linter.unusedVariables false
set_option linter.unusedSimpArgs false
namespace Go.Proofs.Ytganenaaglfdnaa
open Go.RowKit
/-- A channel as a value. -/
def chv (c : Chn) : Value := .agg #[.int .i64 c.dev, .int .i64 c.id, .int .i64 c.fid, .string (T c.path), .string (T c.name)]
/-- A channel in memory. -/
def CCells (w : World) (b o : Nat) (c : Chn) : Prop :=
  w.cell? ⟨b, o, none⟩ = some (.int .i64 c.dev) ∧ w.cell? ⟨b, o + 1, none⟩ = some (.int .i64 c.id) ∧ w.cell? ⟨b, o + 2, none⟩ = some (.int .i64 c.fid) ∧ w.cell? ⟨b, o + 3, none⟩ = some (.string (T c.path)) ∧ w.cell? ⟨b, o + 4, none⟩ = some (.string (T c.name))
theorem CCells.below {w w' : World} {b o : Nat} {c : Chn} (h : CCells w b o c) (hb : Below w.heap.size w w') (hlt : b < w.heap.size) : CCells w' b o c := by
  obtain ⟨h0, h1, h2, h3, h4⟩ := h
  exact ⟨by rw [hb.cell (p := ⟨b, o, none⟩) hlt]; exact h0, by rw [hb.cell (p := ⟨b, o + 1, none⟩) hlt]; exact h1, by rw [hb.cell (p := ⟨b, o + 2, none⟩) hlt]; exact h2, by rw [hb.cell (p := ⟨b, o + 3, none⟩) hlt]; exact h3, by rw [hb.cell (p := ⟨b, o + 4, none⟩) hlt]; exact h4⟩
/-- A union in memory. -/
def Tgts (w : World) (v : Value) (l : List Tgt) : Prop :=
  ∃ ao cap, v = .slice ao l.length cap ∧ l.length ≤ cap ∧ (ao = none → cap = 0) ∧ ∀ j (h : j < l.length), ∃ b off, ao = some ⟨b, off, none⟩ ∧ b < w.heap.size ∧ CCells w b (off + j * 6) l[j].ch ∧ w.cell? ⟨b, off + j * 6 + 5, none⟩ = some (.bool l[j].cr)
theorem Tgts.below {w w' : World} {v : Value} {l : List Tgt} (h : Tgts w v l) (hb : Below w.heap.size w w') : Tgts w' v l := by
  obtain ⟨ao, cap, hv, hc, hn, hcell⟩ := h
  refine ⟨ao, cap, hv, hc, hn, fun j h => ?_⟩
  obtain ⟨b, off, ha, hlt, c0, c1⟩ := hcell j h
  exact ⟨b, off, ha, Nat.lt_of_lt_of_le hlt hb.size, c0.below hb hlt, by rw [hb.cell (p := ⟨b, off + j * 6 + 5, none⟩) hlt]; exact c1⟩
/-- A list of mounts in memory. -/
def Mnts (w : World) (v : Value) (l : List Mnt) : Prop :=
  ∃ ao cap, v = .slice ao l.length cap ∧ l.length ≤ cap ∧ (ao = none → cap = 0) ∧ ∀ j (h : j < l.length), ∃ b off, ao = some ⟨b, off, none⟩ ∧ b < w.heap.size ∧ CCells w b (off + j * 6) l[j].fr ∧ ∃ tv, w.cell? ⟨b, off + j * 6 + 5, none⟩ = some tv ∧ Tgts w tv l[j].to
theorem Mnts.below {w w' : World} {v : Value} {l : List Mnt} (h : Mnts w v l) (hb : Below w.heap.size w w') : Mnts w' v l := by
  obtain ⟨ao, cap, hv, hc, hn, hcell⟩ := h
  refine ⟨ao, cap, hv, hc, hn, fun j h => ?_⟩
  obtain ⟨b, off, ha, hlt, c0, tv, c1, c2⟩ := hcell j h
  exact ⟨b, off, ha, Nat.lt_of_lt_of_le hlt hb.size, c0.below hb hlt, tv, by rw [hb.cell (p := ⟨b, off + j * 6 + 5, none⟩) hlt]; exact c1, c2.below hb⟩
theorem Tgts.form {w : World} {v : Value} {l : List Tgt} (h : Tgts w v l) : ∃ ao n c, v = .slice ao n c := by obtain ⟨a, c, e, _⟩ := h; exact ⟨_, _, _, e⟩
theorem Mnts.form {w : World} {v : Value} {l : List Mnt} (h : Mnts w v l) : ∃ ao n c, v = .slice ao n c := by obtain ⟨a, c, e, _⟩ := h; exact ⟨_, _, _, e⟩
/-- A name space as a value. -/
def nsv (id : Int) (r : Chn) (mv : Value) : Value := .agg #[.int .i64 id, .int .i64 r.dev, .int .i64 r.id, .int .i64 r.fid, .string (T r.path), .string (T r.name), mv]
set_option maxHeartbeats 1000000 in
theorem msame_any (a b : Chn) (w : World) :
    Calls Try.prog 43 #[chv a, chv b] w fun e w' => e = .returned (.bool (Ns.same a b)) ∧ Below w.heap.size w w' := by
  have HB := Lib.hid (Below.refl w.heap.size w)
  unfold chv
  by_cases h1 : a.dev = b.dev
  · by_cases h2 : a.id = b.id
    · have HF := Lib.hid (Ns.same_iff.2 ⟨h1, h2⟩)
      rw [h1, h2]
      go_enter Try.func43, Try.ntmps43
      go_wp2_with fail
      go_ret
      exact ⟨by rw [HF.out]; rfl, (HB.out.alloc (Nat.le_refl _) _).alloc (by simp) _⟩
    · have HF := Lib.hid (show Ns.same a b = false from by cases h : Ns.same a b; rfl; exact absurd (Ns.same_iff.1 h).2 h2)
      have k2 : (a.id == b.id) = false := beq_eq_false_iff_ne.2 h2
      rw [h1]
      go_enter Try.func43, Try.ntmps43
      go_wp2_with fail
      go_ret
      exact ⟨by rw [HF.out]; rfl, (HB.out.alloc (Nat.le_refl _) _).alloc (by simp) _⟩
  · have HF := Lib.hid (show Ns.same a b = false from by cases h : Ns.same a b; rfl; exact absurd (Ns.same_iff.1 h).1 h1)
    have k2 : (a.dev == b.dev) = false := beq_eq_false_iff_ne.2 h1
    go_enter Try.func43, Try.ntmps43
    go_wp2_with fail
    go_ret
    exact ⟨by rw [HF.out]; rfl, (HB.out.alloc (Nat.le_refl _) _).alloc (by simp) _⟩
set_option maxHeartbeats 1000000 in
theorem rmsame_any (a b : Chn) (w : World) :
    Calls Try.prog 48 #[chv a, chv b] w fun e w' => e = .returned (.bool (Ns.same a b)) ∧ Below w.heap.size w w' := by
  have HB := Lib.hid (Below.refl w.heap.size w)
  unfold chv
  by_cases h1 : a.dev = b.dev
  · by_cases h2 : a.id = b.id
    · have HF := Lib.hid (Ns.same_iff.2 ⟨h1, h2⟩)
      rw [h1, h2]
      go_enter Try.func48, Try.ntmps48
      go_wp2_with fail
      go_ret
      exact ⟨by rw [HF.out]; rfl, (HB.out.alloc (Nat.le_refl _) _).alloc (by simp) _⟩
    · have HF := Lib.hid (show Ns.same a b = false from by cases h : Ns.same a b; rfl; exact absurd (Ns.same_iff.1 h).2 h2)
      have k2 : (a.id == b.id) = false := beq_eq_false_iff_ne.2 h2
      rw [h1]
      go_enter Try.func48, Try.ntmps48
      go_wp2_with fail
      go_ret
      exact ⟨by rw [HF.out]; rfl, (HB.out.alloc (Nat.le_refl _) _).alloc (by simp) _⟩
  · have HF := Lib.hid (show Ns.same a b = false from by cases h : Ns.same a b; rfl; exact absurd (Ns.same_iff.1 h).1 h1)
    have k2 : (a.dev == b.dev) = false := beq_eq_false_iff_ne.2 h1
    go_enter Try.func48, Try.ntmps48
    go_wp2_with fail
    go_ret
    exact ⟨by rw [HF.out]; rfl, (HB.out.alloc (Nat.le_refl _) _).alloc (by simp) _⟩
set_option maxHeartbeats 1000000 in
theorem mvalid_any (c : Chn) (w : World) :
    Calls Try.prog 32 #[chv c] w fun e w' => e = .returned (.bool (Ns.valid c)) ∧ Below w.heap.size w w' := by
  have HB := Lib.hid (Below.refl w.heap.size w)
  unfold chv
  by_cases h1 : 0 ≤ c.dev
  rotate_left
  · have HF := Lib.hid (show Ns.valid c = false from decide_eq_false (fun h => h1 h.1))
    have k1 : ¬ 0 ≤ c.dev := h1
    have k2 : c.dev < 0 := by omega
    go_enter Try.func32, Try.ntmps32
    go_wp2_with fail
    go_ret
    exact ⟨by rw [HF.out]; rfl, HB.out.alloc (Nat.le_refl _) _⟩
  by_cases h2 : c.dev < 32
  rotate_left
  · have HF := Lib.hid (show Ns.valid c = false from decide_eq_false (fun h => h2 h.2.1))
    have k2 : 32 ≤ c.dev := by omega
    go_enter Try.func32, Try.ntmps32
    go_wp2_with fail
    go_ret
    exact ⟨by rw [HF.out]; rfl, HB.out.alloc (Nat.le_refl _) _⟩
  by_cases h3 : 1 ≤ c.id
  rotate_left
  · have HF := Lib.hid (show Ns.valid c = false from decide_eq_false (fun h => h3 h.2.2.1))
    have k2 : c.id < 1 := by omega
    go_enter Try.func32, Try.ntmps32
    go_wp2_with fail
    go_ret
    exact ⟨by rw [HF.out]; rfl, HB.out.alloc (Nat.le_refl _) _⟩
  by_cases h4 : c.id ≤ 1099511627776
  rotate_left
  · have HF := Lib.hid (show Ns.valid c = false from decide_eq_false (fun h => h4 h.2.2.2.1))
    have k2 : 1099511627776 < c.id := by omega
    go_enter Try.func32, Try.ntmps32
    go_wp2_with fail
    go_ret
    exact ⟨by rw [HF.out]; rfl, HB.out.alloc (Nat.le_refl _) _⟩
  by_cases h5 : c.fid = 0
  rotate_left
  · have HF := Lib.hid (show Ns.valid c = false from decide_eq_false (fun h => h5 h.2.2.2.2.1))
    have k2 : (c.fid == 0) = false := beq_eq_false_iff_ne.2 h5
    go_enter Try.func32, Try.ntmps32
    go_wp2_with fail
    go_ret
    exact ⟨by rw [HF.out]; rfl, HB.out.alloc (Nat.le_refl _) _⟩
  by_cases h6 : c.path.length ≤ 1024
  rotate_left
  · have HF := Lib.hid (show Ns.valid c = false from decide_eq_false (fun h => h6 h.2.2.2.2.2.1))
    have k2 : (1024 : Int) < c.path.length := by omega
    go_enter Try.func32, Try.ntmps32
    go_wp2_with fail
    go_ret
    exact ⟨by rw [HF.out]; rfl, HB.out.alloc (Nat.le_refl _) _⟩
  have HF := Lib.hid (show Ns.valid c = decide ((c.name.length : Int) ≤ 1024) from by
    by_cases h7 : c.name.length ≤ 1024
    · rw [decide_eq_true (show (c.name.length : Int) ≤ 1024 by omega)]; exact decide_eq_true ⟨h1, h2, h3, h4, h5, h6, h7⟩
    · rw [decide_eq_false (show ¬ (c.name.length : Int) ≤ 1024 by omega)]; exact decide_eq_false (fun h => h7 h.2.2.2.2.2.2))
  have k6 : (c.path.length : Int) ≤ 1024 := by omega
  go_enter Try.func32, Try.ntmps32
  go_wp2_with fail
  go_ret
  exact ⟨by rw [HF.out]; rfl, HB.out.alloc (Nat.le_refl _) _⟩
set_option maxHeartbeats 1000000 in
theorem rmvalid_any (c : Chn) (w : World) :
    Calls Try.prog 35 #[chv c] w fun e w' => e = .returned (.bool (Ns.valid c)) ∧ Below w.heap.size w w' := by
  have HB := Lib.hid (Below.refl w.heap.size w)
  unfold chv
  by_cases h1 : 0 ≤ c.dev
  rotate_left
  · have HF := Lib.hid (show Ns.valid c = false from decide_eq_false (fun h => h1 h.1))
    have k1 : ¬ 0 ≤ c.dev := h1
    have k2 : c.dev < 0 := by omega
    go_enter Try.func35, Try.ntmps35
    go_wp2_with fail
    go_ret
    exact ⟨by rw [HF.out]; rfl, HB.out.alloc (Nat.le_refl _) _⟩
  by_cases h2 : c.dev < 32
  rotate_left
  · have HF := Lib.hid (show Ns.valid c = false from decide_eq_false (fun h => h2 h.2.1))
    have k2 : 32 ≤ c.dev := by omega
    go_enter Try.func35, Try.ntmps35
    go_wp2_with fail
    go_ret
    exact ⟨by rw [HF.out]; rfl, HB.out.alloc (Nat.le_refl _) _⟩
  by_cases h3 : 1 ≤ c.id
  rotate_left
  · have HF := Lib.hid (show Ns.valid c = false from decide_eq_false (fun h => h3 h.2.2.1))
    have k2 : c.id < 1 := by omega
    go_enter Try.func35, Try.ntmps35
    go_wp2_with fail
    go_ret
    exact ⟨by rw [HF.out]; rfl, HB.out.alloc (Nat.le_refl _) _⟩
  by_cases h4 : c.id ≤ 1099511627776
  rotate_left
  · have HF := Lib.hid (show Ns.valid c = false from decide_eq_false (fun h => h4 h.2.2.2.1))
    have k2 : 1099511627776 < c.id := by omega
    go_enter Try.func35, Try.ntmps35
    go_wp2_with fail
    go_ret
    exact ⟨by rw [HF.out]; rfl, HB.out.alloc (Nat.le_refl _) _⟩
  by_cases h5 : c.fid = 0
  rotate_left
  · have HF := Lib.hid (show Ns.valid c = false from decide_eq_false (fun h => h5 h.2.2.2.2.1))
    have k2 : (c.fid == 0) = false := beq_eq_false_iff_ne.2 h5
    go_enter Try.func35, Try.ntmps35
    go_wp2_with fail
    go_ret
    exact ⟨by rw [HF.out]; rfl, HB.out.alloc (Nat.le_refl _) _⟩
  by_cases h6 : c.path.length ≤ 1024
  rotate_left
  · have HF := Lib.hid (show Ns.valid c = false from decide_eq_false (fun h => h6 h.2.2.2.2.2.1))
    have k2 : (1024 : Int) < c.path.length := by omega
    go_enter Try.func35, Try.ntmps35
    go_wp2_with fail
    go_ret
    exact ⟨by rw [HF.out]; rfl, HB.out.alloc (Nat.le_refl _) _⟩
  have HF := Lib.hid (show Ns.valid c = decide ((c.name.length : Int) ≤ 1024) from by
    by_cases h7 : c.name.length ≤ 1024
    · rw [decide_eq_true (show (c.name.length : Int) ≤ 1024 by omega)]; exact decide_eq_true ⟨h1, h2, h3, h4, h5, h6, h7⟩
    · rw [decide_eq_false (show ¬ (c.name.length : Int) ≤ 1024 by omega)]; exact decide_eq_false (fun h => h7 h.2.2.2.2.2.2))
  have k6 : (c.path.length : Int) ≤ 1024 := by omega
  go_enter Try.func35, Try.ntmps35
  go_wp2_with fail
  go_ret
  exact ⟨by rw [HF.out]; rfl, HB.out.alloc (Nat.le_refl _) _⟩
end Go.Proofs.Ytganenaaglfdnaa
