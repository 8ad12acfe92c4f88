/- Conversations as values; what talk.value, counted, talk.mac, talk.nonces return. Conditions: keys and texts of at most 1000. -/
import Derived.Test.YtjjdaelddicokaaGreatDoorAuRCheck
import Derived.Test.YtjjdaelddicokaaGreatDoorAuPt
import Derived.Test.YtjjdaelddicokaaGreatDoorShaTopM
set_option linter.unusedVariables false
set_option linter.unusedSimpArgs false
namespace Go.Proofs.YtjjdaelddicokaaGreatDoor
open Go.RowKit
open Au (Att Cnv)
/-- A conversation of moderate size. -/
structure Fine (c : Cnv) : Prop where
  kl : c.key.length ≤ 1000
  kf : ∀ j (h : j < c.key.length), c.key[j].name.length ≤ 1000 ∧ c.key[j].value.length ≤ 1000
  ow : c.own.length ≤ 1000
  pe : c.peer.length ≤ 1000
namespace Au
theorem find_le {n : List UInt8} {l : List Att} {B : Nat} (h : ∀ j (hj : j < l.length), l[j].value.length ≤ B) : (find n l).length ≤ B := by
  unfold find
  split
  · rename_i a ha
    split
    · obtain ⟨h1, h2⟩ := List.getElem?_eq_some_iff.1 ha
      rw [← h2]; exact h _ h1
    · simp
  · simp
theorem put_le (s : List UInt8) : (put s).length ≤ s.length + 2 := by
  unfold put Oct.ptS
  split
  · simp
  · rw [List.length_append, Oct.le_length]; omega
end Au
theorem Fine.find {c : Cnv} (h : Fine c) (n : List UInt8) : (Au.find n c.key).length ≤ 1000 := Au.find_le fun j hj => (h.kf j hj).2
theorem Fine.fits {c : Cnv} (h : Fine c) : Fits c.key := fun j hj => ⟨by have := (h.kf j hj).1; omega, by have := (h.kf j hj).2; omega⟩
/-- The cells of a conversation's box. -/
abbrev CvS (W : World) (g : Nat) (c : Cnv) (kv : Value) : Prop :=
  W.cell? ⟨g, 0, none⟩ = some (.int .i64 c.id) ∧ W.cell? ⟨g, 1, none⟩ = some (.string (T c.proto)) ∧ W.cell? ⟨g, 2, none⟩ = some (.int .i64 c.role) ∧ W.cell? ⟨g, 3, none⟩ = some (.int .i64 c.phase) ∧ W.cell? ⟨g, 4, none⟩ = some (.int .i64 c.step) ∧ W.cell? ⟨g, 5, none⟩ = some kv ∧ W.cell? ⟨g, 6, none⟩ = some (.string (T c.own)) ∧ W.cell? ⟨g, 7, none⟩ = some (.string (T c.peer)) ∧ W.cell? ⟨g, 8, none⟩ = some (.string (T c.user)) ∧ W.cell? ⟨g, 9, none⟩ = some (.int .i64 c.err)
theorem frozen_of_rowA {W : World} {g : Nat} {t : TypeId} {cs : Array Value} (h : W.heap[g]? = some (.cells cs t (0, 0))) (o : Nat) : W.frozen? ⟨g, o, none⟩ = false := by
  simp [World.frozen?, h]
theorem cv_reads {W : World} {g : Nat} {t : TypeId} {c : Cnv} {kv : Value} (h : W.heap[g]? = some (.cells #[.int .i64 c.id, .string (T c.proto), .int .i64 c.role, .int .i64 c.phase, .int .i64 c.step, kv, .string (T c.own), .string (T c.peer), .string (T c.user), .int .i64 c.err] t (0, 0))) : CvS W g c kv ∧ (W.frozen? ⟨g, 0, none⟩ = false ∧ W.frozen? ⟨g, 1, none⟩ = false ∧ W.frozen? ⟨g, 2, none⟩ = false ∧ W.frozen? ⟨g, 3, none⟩ = false ∧ W.frozen? ⟨g, 4, none⟩ = false ∧ W.frozen? ⟨g, 5, none⟩ = false ∧ W.frozen? ⟨g, 6, none⟩ = false ∧ W.frozen? ⟨g, 7, none⟩ = false ∧ W.frozen? ⟨g, 8, none⟩ = false ∧ W.frozen? ⟨g, 9, none⟩ = false) := by
  refine ⟨⟨?_, ?_, ?_, ?_, ?_, ?_, ?_, ?_, ?_, ?_⟩, ?_, ?_, ?_, ?_, ?_, ?_, ?_, ?_, ?_, ?_⟩
  all_goals first
    | (rw [cell_of_row _ _ _ _ _ _ h]; rfl)
    | (exact frozen_of_rowA h _)
theorem CvS.below {W W' : World} {g : Nat} {c : Cnv} {kv : Value} (h : CvS W g c kv) (hb : Below W.heap.size W W') : CvS W' g c kv := by
  obtain ⟨h0, h1, h2, h3, h4, h5, h6, h7, h8, h9⟩ := h
  have hl : g < W.heap.size := block_lt_of_cell h0
  have hc := (bcell hb).1
  exact ⟨by rw [hc _ _ hl]; exact h0, by rw [hc _ _ hl]; exact h1, by rw [hc _ _ hl]; exact h2, by rw [hc _ _ hl]; exact h3, by rw [hc _ _ hl]; exact h4, by rw [hc _ _ hl]; exact h5, by rw [hc _ _ hl]; exact h6, by rw [hc _ _ hl]; exact h7, by rw [hc _ _ hl]; exact h8, by rw [hc _ _ hl]; exact h9⟩
set_option maxHeartbeats 1000000 in
theorem tval_any (c : Cnv) (kv : Value) (n : List UInt8) (w : World) (hk : Atts w kv c.key) (hf : Fine c) :
    Calls Tryz.prog 48 #[.agg #[.int .i64 c.id, .string (T c.proto), .int .i64 c.role, .int .i64 c.phase, .int .i64 c.step, kv, .string (T c.own), .string (T c.peer), .string (T c.user), .int .i64 c.err], .string (T n)] w fun e w' => e = .returned (.string (T (Au.find n c.key))) ∧ Below w.heap.size w w' := by
  have HFD := Lib.hid (fun (W : World) (hb : Below w.heap.size w W) => afind_any kv c.key n W (hk.below hb) (by have := hf.kl; omega))
  obtain ⟨ao, m, cp, rfl⟩ := hk.form
  have HB := Lib.hid ((Below.refl w.heap.size w).alloc (Nat.le_refl _) (.cells #[.int .i64 c.id, .string (T c.proto), .int .i64 c.role, .int .i64 c.phase, .int .i64 c.step, (.slice ao m cp), .string (T c.own), .string (T c.peer), .string (T c.user), .int .i64 c.err] 48))
  clear hk hf
  go_enter Tryz.func48, Tryz.ntmps48
  go_wp2_with fail
  (with_reducible refine (HFD.out _ HB.out).mono ?_); rintro e w1 ⟨rfl, b1⟩
  have HB1 := Lib.hid (bnext HB.out b1)
  clear b1
  go_wp2_with fail
  go_ret
  exact ⟨rfl, HB1.out⟩
theorem counted_any (s : List UInt8) (w : World) (hs : s.length ≤ 1000000) :
    Calls Tryz.prog 54 #[.string (T s)] w fun e w' => e = .returned (.string (T (Au.put s))) ∧ Below w.heap.size w w' := by
  have HPT := Lib.hid (show Calls Tryz.prog 66 #[.string (T s)] w fun e w' => e = .returned (.tuple #[.string (T (Au.put s)), .int .i64 (Oct.ptE s)]) ∧ Below w.heap.size w w' from pt_any (T s) w (by rw [T_size]; omega))
  go_enter Tryz.func54, Tryz.ntmps54
  go_wp2_with fail
  (with_reducible refine HPT.out.mono ?_); rintro e w1 ⟨rfl, b1⟩
  go_wp2_with fail
  go_ret
  exact ⟨rfl, b1⟩
set_option maxHeartbeats 1000000 in
theorem tmac_any (c : Cnv) (kv : Value) (s : List UInt8) (w : World) (hk : Atts w kv c.key) (hf : Fine c) (hs : s.length ≤ 1000000) (hK : KIn w) :
    Calls Tryz.prog 58 #[.agg #[.int .i64 c.id, .string (T c.proto), .int .i64 c.role, .int .i64 c.phase, .int .i64 c.step, kv, .string (T c.own), .string (T c.peer), .string (T c.user), .int .i64 c.err], .string (T s)] w fun e w' => e = .returned (.string (T (Au.mac c s))) ∧ Below w.heap.size w w' := by
  have HV := Lib.hid (fun (W : World) (hb : Below w.heap.size w W) => show Calls Tryz.prog 48 #[.agg #[.int .i64 c.id, .string (T c.proto), .int .i64 c.role, .int .i64 c.phase, .int .i64 c.step, kv, .string (T c.own), .string (T c.peer), .string (T c.user), .int .i64 c.err], .string (T Au.sSecret)] W fun e w' => e = .returned (.string (T (Au.sec c.key))) ∧ Below W.heap.size W w' from tval_any c kv Au.sSecret W (hk.below hb) hf)
  have HM := Lib.hid (fun (W : World) (hb : Below w.heap.size w W) => show Calls Tryz.prog 69 #[.string (T (Au.sec c.key)), .string (T s)] W fun e w' => e = .returned (.string (T (Au.mac c s))) ∧ Below W.heap.size W w' from mac_T (Au.sec c.key) s W (by have := hf.find Au.sSecret; unfold Au.sec; omega) hs (hK.below hb))
  unfold Au.sSecret at HV
  obtain ⟨ao, m, cp, rfl⟩ := hk.form
  have HB := Lib.hid ((Below.refl w.heap.size w).alloc (Nat.le_refl _) (.cells #[.int .i64 c.id, .string (T c.proto), .int .i64 c.role, .int .i64 c.phase, .int .i64 c.step, (.slice ao m cp), .string (T c.own), .string (T c.peer), .string (T c.user), .int .i64 c.err] 48))
  clear hk hf hs hK
  go_enter Tryz.func58, Tryz.ntmps58
  go_wp2_with fail
  (with_reducible refine (HV.out _ HB.out).mono ?_); rintro e w1 ⟨rfl, b1⟩
  have HB1 := Lib.hid (bnext HB.out b1)
  clear b1
  go_wp2_with fail
  (with_reducible refine (HM.out _ HB1.out).mono ?_); rintro e w2 ⟨rfl, b2⟩
  have HB2 := Lib.hid (bnext HB1.out b2)
  clear b2
  go_wp2_with fail
  go_ret
  exact ⟨rfl, HB2.out⟩
set_option maxHeartbeats 1000000 in
theorem tnon_any (c : Cnv) (kv : Value) (w : World) (hk : Atts w kv c.key) :
    Calls Tryz.prog 57 #[.agg #[.int .i64 c.id, .string (T c.proto), .int .i64 c.role, .int .i64 c.phase, .int .i64 c.step, kv, .string (T c.own), .string (T c.peer), .string (T c.user), .int .i64 c.err]] w fun e w' => e = .returned (.tuple #[.string (T (Au.cl c)), .string (T (Au.sv c))]) ∧ Below w.heap.size w w' := by
  obtain ⟨ao, m, cp, rfl⟩ := hk.form
  have HB := Lib.hid (fun (o : Obj) => (Below.refl w.heap.size w).alloc (Nat.le_refl _) o)
  obtain ⟨c0, c1, c2, c3, c4, c5, c6, c7, c8, c9⟩ := (cv_reads (heap_alloc_new w (.cells #[.int .i64 c.id, .string (T c.proto), .int .i64 c.role, .int .i64 c.phase, .int .i64 c.step, (.slice ao m cp), .string (T c.own), .string (T c.peer), .string (T c.user), .int .i64 c.err] 48))).1
  clear hk
  by_cases hr : c.role = 1
  · have HF := Lib.hid (show Au.cl c = c.own ∧ Au.sv c = c.peer from by unfold Au.cl Au.sv; rw [if_pos hr, if_pos hr]; exact ⟨rfl, rfl⟩)
    go_enter Tryz.func57, Tryz.ntmps57
    go_wp2_with fail
    go_quiet (fail)
    go_wp2_with fail
    go_ret2
    exact ⟨by rw [HF.out.1, HF.out.2]; rfl, below_drewN (HB.out _) _⟩
  · have HF := Lib.hid (show Au.cl c = c.peer ∧ Au.sv c = c.own from by unfold Au.cl Au.sv; rw [if_neg hr, if_neg hr]; exact ⟨rfl, rfl⟩)
    have hr1 : (c.role == 1) = false := beq_eq_false_iff_ne.2 hr
    clear hr
    go_enter Tryz.func57, Tryz.ntmps57
    go_wp2_with fail
    go_quiet (fail)
    go_wp2_with fail
    go_ret2
    exact ⟨by rw [HF.out.1, HF.out.2]; rfl, below_drewN (HB.out _) _⟩
end Go.Proofs.YtjjdaelddicokaaGreatDoor
