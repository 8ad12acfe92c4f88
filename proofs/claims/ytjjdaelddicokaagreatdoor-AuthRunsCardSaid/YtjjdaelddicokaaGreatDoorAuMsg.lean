/- The messages of the three protocols, and the method value that yields them. Conditions: keys and texts of at most 1000. -/
import Derived.Test.YtjjdaelddicokaaGreatDoorAuTalk
import Derived.Deep.RegionHeldLaw
set_option linter.unusedVariables false
set_option linter.unusedSimpArgs false
namespace Go.Proofs.YtjjdaelddicokaaGreatDoor
open Go.RowKit
open Au (Att Cnv)
/-- The cells of a talk's box, the first block that a call lays. -/
abbrev TkS (w W : World) (c : Cnv) (kv : Value) : Prop :=
  W.cell? ⟨w.heap.size, 0, none⟩ = some (.int .i64 c.id) ∧ W.cell? ⟨w.heap.size, 1, none⟩ = some (.string (T c.proto)) ∧ W.cell? ⟨w.heap.size, 2, none⟩ = some (.int .i64 c.role) ∧ W.cell? ⟨w.heap.size, 3, none⟩ = some (.int .i64 c.phase) ∧ W.cell? ⟨w.heap.size, 4, none⟩ = some (.int .i64 c.step) ∧ W.cell? ⟨w.heap.size, 5, none⟩ = some kv ∧ W.cell? ⟨w.heap.size, 6, none⟩ = some (.string (T c.own)) ∧ W.cell? ⟨w.heap.size, 7, none⟩ = some (.string (T c.peer)) ∧ W.cell? ⟨w.heap.size, 8, none⟩ = some (.string (T c.user)) ∧ W.cell? ⟨w.heap.size, 9, none⟩ = some (.int .i64 c.err) ∧ Below w.heap.size w W
theorem tk_0 {w : World} {c : Cnv} {kv : Value} {t : TypeId} : TkS w (w.alloc (.cells #[.int .i64 c.id, .string (T c.proto), .int .i64 c.role, .int .i64 c.phase, .int .i64 c.step, kv, .string (T c.own), .string (T c.peer), .string (T c.user), .int .i64 c.err] t)) c kv := by
  obtain ⟨⟨h0, h1, h2, h3, h4, h5, h6, h7, h8, h9⟩, _⟩ := cv_reads (heap_alloc_new w (.cells #[.int .i64 c.id, .string (T c.proto), .int .i64 c.role, .int .i64 c.phase, .int .i64 c.step, kv, .string (T c.own), .string (T c.peer), .string (T c.user), .int .i64 c.err] t))
  exact ⟨h0, h1, h2, h3, h4, h5, h6, h7, h8, h9, (Below.refl _ _).alloc (Nat.le_refl _) _⟩
theorem TkS.next {w W W' : World} {c : Cnv} {kv : Value} (h : TkS w W c kv) (hb : Below W.heap.size W W') : TkS w W' c kv := by
  obtain ⟨h0, h1, h2, h3, h4, h5, h6, h7, h8, h9, b⟩ := h
  obtain ⟨k0, k1, k2, k3, k4, k5, k6, k7, k8, k9⟩ := CvS.below (g := w.heap.size) ⟨h0, h1, h2, h3, h4, h5, h6, h7, h8, h9⟩ hb
  exact ⟨k0, k1, k2, k3, k4, k5, k6, k7, k8, k9, bnext b hb⟩
theorem TkS.bel {w W : World} {c : Cnv} {kv : Value} (h : TkS w W c kv) : Below w.heap.size w W := h.2.2.2.2.2.2.2.2.2.2
theorem TkS.cells {w W : World} {c : Cnv} {kv : Value} (h : TkS w W c kv) : CvS W w.heap.size c kv := by
  obtain ⟨h0, h1, h2, h3, h4, h5, h6, h7, h8, h9, b⟩ := h
  exact ⟨h0, h1, h2, h3, h4, h5, h6, h7, h8, h9⟩
theorem add_le {a b : List UInt8} {n m : Nat} (h : a.length ≤ n) (k : b.length ≤ m) : (a ++ b).length ≤ n + m := by rw [List.length_append]; omega
namespace Au
theorem cl_le {c : Cnv} {n : Nat} (h : c.own.length ≤ n) (k : c.peer.length ≤ n) : (cl c).length ≤ n := by unfold cl; split <;> assumption
theorem sv_le {c : Cnv} {n : Nat} (h : c.own.length ≤ n) (k : c.peer.length ≤ n) : (sv c).length ≤ n := by unfold sv; split <;> assumption
theorem mac_length (c : Cnv) (s : List UInt8) : (mac c s).length = 32 := by unfold mac Sha.mac; exact Sha.sum_length _
end Au
set_option maxRecDepth 20000 in
set_option maxHeartbeats 4000000 in
theorem tchal_any (c : Cnv) (kv : Value) (n : Int) (w : World) (hk : Atts w kv c.key) (hf : Fine c) (hK : KIn w) :
    Calls Tryz.prog 44 #[.agg #[.int .i64 c.id, .string (T c.proto), .int .i64 c.role, .int .i64 c.phase, .int .i64 c.step, kv, .string (T c.own), .string (T c.peer), .string (T c.user), .int .i64 c.err], .int .i64 n] w fun e w' => e = .returned (.string (T (Au.msgChal c n))) ∧ Below w.heap.size w w' := by
  obtain ⟨ao, m, cp, rfl⟩ := hk.form
  have HK := Lib.hid hk
  have HFN := Lib.hid hf
  have HKI := Lib.hid hK
  have hul := hf.find Au.sUser
  have hsl := hf.find Au.sSecret
  have hcl := Au.cl_le hf.ow hf.pe
  have hsv := Au.sv_le hf.ow hf.pe
  have hml := Au.mac_length c
  have hput : ∀ s : List UInt8, s.length ≤ 1000 → (Au.put s).length ≤ 1002 := fun s h => by have := Au.put_le s; omega
  have HU : Hid (∀ (W : World), TkS w W c (.slice ao m cp) → Calls Tryz.prog 48 #[.agg #[.int .i64 c.id, .string (T c.proto), .int .i64 c.role, .int .i64 c.phase, .int .i64 c.step, (.slice ao m cp), .string (T c.own), .string (T c.peer), .string (T c.user), .int .i64 c.err], .string (T [117, 115, 101, 114])] W fun e w' => e = .returned (.string (T (Au.user c.key))) ∧ TkS w w' c (.slice ao m cp)) := fun W h => (tval_any c (.slice ao m cp) [117, 115, 101, 114] W (HK.out.below h.bel) HFN.out).mono fun e w' h' => ⟨h'.1, h.next h'.2⟩
  have HSC : Hid (∀ (W : World), TkS w W c (.slice ao m cp) → Calls Tryz.prog 48 #[.agg #[.int .i64 c.id, .string (T c.proto), .int .i64 c.role, .int .i64 c.phase, .int .i64 c.step, (.slice ao m cp), .string (T c.own), .string (T c.peer), .string (T c.user), .int .i64 c.err], .string (T [33, 115, 101, 99, 114, 101, 116])] W fun e w' => e = .returned (.string (T (Au.sec c.key))) ∧ TkS w w' c (.slice ao m cp)) := fun W h => (tval_any c (.slice ao m cp) [33, 115, 101, 99, 114, 101, 116] W (HK.out.below h.bel) HFN.out).mono fun e w' h' => ⟨h'.1, h.next h'.2⟩
  have HCT : Hid (∀ (s : List UInt8) (W : World), s.length ≤ 1000000 → TkS w W c (.slice ao m cp) → Calls Tryz.prog 54 #[.string (T s)] W fun e w' => e = .returned (.string (T (Au.put s))) ∧ TkS w w' c (.slice ao m cp)) := fun s W hs h => (counted_any s W hs).mono fun e w' h' => ⟨h'.1, h.next h'.2⟩
  have HMC : Hid (∀ (s : List UInt8) (W : World), s.length ≤ 1000000 → TkS w W c (.slice ao m cp) → Calls Tryz.prog 58 #[.agg #[.int .i64 c.id, .string (T c.proto), .int .i64 c.role, .int .i64 c.phase, .int .i64 c.step, (.slice ao m cp), .string (T c.own), .string (T c.peer), .string (T c.user), .int .i64 c.err], .string (T s)] W fun e w' => e = .returned (.string (T (Au.mac c s))) ∧ TkS w w' c (.slice ao m cp)) := fun s W hs h => (tmac_any c (.slice ao m cp) s W (HK.out.below h.bel) HFN.out hs (HKI.out.below h.bel)).mono fun e w' h' => ⟨h'.1, h.next h'.2⟩
  have HNC : Hid (∀ (W : World), TkS w W c (.slice ao m cp) → Calls Tryz.prog 57 #[.agg #[.int .i64 c.id, .string (T c.proto), .int .i64 c.role, .int .i64 c.phase, .int .i64 c.step, (.slice ao m cp), .string (T c.own), .string (T c.peer), .string (T c.user), .int .i64 c.err]] W fun e w' => e = .returned (.tuple #[.string (T (Au.cl c)), .string (T (Au.sv c))]) ∧ TkS w w' c (.slice ao m cp)) := fun W h => (tnon_any c (.slice ao m cp) W (HK.out.below h.bel)).mono fun e w' h' => ⟨h'.1, h.next h'.2⟩
  have H0 : Hid (TkS w (w.alloc (.cells #[.int .i64 c.id, .string (T c.proto), .int .i64 c.role, .int .i64 c.phase, .int .i64 c.step, (.slice ao m cp), .string (T c.own), .string (T c.peer), .string (T c.user), .int .i64 c.err] 48)) c (.slice ao m cp)) := tk_0
  have HL := Lib.hid (⟨hul, hsl, hcl, hsv⟩ : (Au.user c.key).length ≤ 1000 ∧ (Au.sec c.key).length ≤ 1000 ∧ (Au.cl c).length ≤ 1000 ∧ (Au.sv c).length ≤ 1000)
  have HML := Lib.hid hml
  have HPL := Lib.hid hput
  clear hk hf hK hul hsl hcl hsv hml hput
  by_cases h0 : n = 0
  · have HF := Lib.hid (show Au.msgChal c n = Au.sv c from by unfold Au.msgChal; rw [if_pos h0])
    go_enter Tryz.func44, Tryz.ntmps44
    go_wp2_with fail
    (with_reducible refine (HNC.out _ H0.out).mono ?_); rintro e w1 ⟨rfl, h1⟩
    have H1 := Lib.hid h1
    obtain ⟨x0, x1, x2, x3, x4, x5, x6, x7, x8, x9, b1⟩ := h1
    clear b1
    go_wp2_with fail
    go_ret
    exact ⟨by rw [HF.out]; rfl, H1.out.bel⟩
  have e0 : (n == 0) = false := beq_eq_false_iff_ne.2 h0
  by_cases h1 : n = 1
  · have HF := Lib.hid (show Au.msgChal c n = Au.put (Au.user c.key) ++ Au.mac c (Au.sv c) from by unfold Au.msgChal; rw [if_neg h0, if_pos h1])
    have b1 : (Au.put (Au.user c.key)).length + (Au.mac c (Au.sv c)).length ≤ 9223372036854775807 := by have := HPL.out _ HL.out.1; have := HML.out (Au.sv c); omega
    have l1 : (Au.user c.key).length ≤ 1000000 := by have := HL.out.1; omega
    have l2 : (Au.sv c).length ≤ 1000000 := by have := HL.out.2.2.2; omega
    clear h0
    subst h1
    go_enter Tryz.func44, Tryz.ntmps44
    go_wp2_with fail
    (with_reducible refine (HNC.out _ H0.out).mono ?_); rintro e w1 ⟨rfl, h1⟩
    have H1 := Lib.hid h1
    obtain ⟨x0, x1, x2, x3, x4, x5, x6, x7, x8, x9, b1⟩ := h1
    clear b1
    go_wp2_with fail
    have HSD : Hid (TkS w w1.drew c (.slice ao m cp)) := H1.out.next (below_drew1 (Below.refl _ _))
    clear x0 x1 x2 x3 x4 x5 x6 x7 x8 x9
    go_region_held_law (fun W' => TkS w W' c (.slice ao m cp)) (first | (with_reducible assumption) | (with_reducible exact HSD.out)) (first | (go_at_call 48; (first | (with_reducible refine (HU.out _ (by assumption)).mono ?_) | (with_reducible refine (HSC.out _ (by assumption)).mono ?_)); rintro e wx ⟨rfl, hkeep⟩) | (go_at_call 54; (with_reducible refine (HCT.out _ _ (by assumption) (by assumption)).mono ?_); rintro e wx ⟨rfl, hkeep⟩) | (go_at_call 58; (with_reducible refine (HMC.out _ _ (by assumption) (by assumption)).mono ?_); rintro e wx ⟨rfl, hkeep⟩))
    all_goals
      go_wp2_with fail
      try rw [T_append]
      go_ret
      exact ⟨by rw [HF.out]; rfl, TkS.bel hkeep⟩
  · have HF := Lib.hid (show Au.msgChal c n = [111, 107] from by unfold Au.msgChal; rw [if_neg h0, if_neg h1]; rfl)
    have e1 : (n == 1) = false := beq_eq_false_iff_ne.2 h1
    go_enter Tryz.func44, Tryz.ntmps44
    go_wp2_with fail
    (with_reducible refine (HNC.out _ H0.out).mono ?_); rintro e w1 ⟨rfl, h1⟩
    have H1 := Lib.hid h1
    obtain ⟨x0, x1, x2, x3, x4, x5, x6, x7, x8, x9, b1⟩ := h1
    clear b1
    go_wp2_with fail
    go_ret
    exact ⟨by rw [HF.out]; rfl, H1.out.bel⟩
set_option maxRecDepth 20000 in
set_option maxHeartbeats 4000000 in
theorem tmut_any (c : Cnv) (kv : Value) (n : Int) (w : World) (hk : Atts w kv c.key) (hf : Fine c) (hK : KIn w) :
    Calls Tryz.prog 45 #[.agg #[.int .i64 c.id, .string (T c.proto), .int .i64 c.role, .int .i64 c.phase, .int .i64 c.step, kv, .string (T c.own), .string (T c.peer), .string (T c.user), .int .i64 c.err], .int .i64 n] w fun e w' => e = .returned (.string (T (Au.msgMutual c n))) ∧ Below w.heap.size w w' := by
  obtain ⟨ao, m, cp, rfl⟩ := hk.form
  have HK := Lib.hid hk
  have HFN := Lib.hid hf
  have HKI := Lib.hid hK
  have hul := hf.find Au.sUser
  have hsl := hf.find Au.sSecret
  have hcl := Au.cl_le hf.ow hf.pe
  have hsv := Au.sv_le hf.ow hf.pe
  have hml := Au.mac_length c
  have hput : ∀ s : List UInt8, s.length ≤ 1000 → (Au.put s).length ≤ 1002 := fun s h => by have := Au.put_le s; omega
  have HU : Hid (∀ (W : World), TkS w W c (.slice ao m cp) → Calls Tryz.prog 48 #[.agg #[.int .i64 c.id, .string (T c.proto), .int .i64 c.role, .int .i64 c.phase, .int .i64 c.step, (.slice ao m cp), .string (T c.own), .string (T c.peer), .string (T c.user), .int .i64 c.err], .string (T [117, 115, 101, 114])] W fun e w' => e = .returned (.string (T (Au.user c.key))) ∧ TkS w w' c (.slice ao m cp)) := fun W h => (tval_any c (.slice ao m cp) [117, 115, 101, 114] W (HK.out.below h.bel) HFN.out).mono fun e w' h' => ⟨h'.1, h.next h'.2⟩
  have HSC : Hid (∀ (W : World), TkS w W c (.slice ao m cp) → Calls Tryz.prog 48 #[.agg #[.int .i64 c.id, .string (T c.proto), .int .i64 c.role, .int .i64 c.phase, .int .i64 c.step, (.slice ao m cp), .string (T c.own), .string (T c.peer), .string (T c.user), .int .i64 c.err], .string (T [33, 115, 101, 99, 114, 101, 116])] W fun e w' => e = .returned (.string (T (Au.sec c.key))) ∧ TkS w w' c (.slice ao m cp)) := fun W h => (tval_any c (.slice ao m cp) [33, 115, 101, 99, 114, 101, 116] W (HK.out.below h.bel) HFN.out).mono fun e w' h' => ⟨h'.1, h.next h'.2⟩
  have HCT : Hid (∀ (s : List UInt8) (W : World), s.length ≤ 1000000 → TkS w W c (.slice ao m cp) → Calls Tryz.prog 54 #[.string (T s)] W fun e w' => e = .returned (.string (T (Au.put s))) ∧ TkS w w' c (.slice ao m cp)) := fun s W hs h => (counted_any s W hs).mono fun e w' h' => ⟨h'.1, h.next h'.2⟩
  have HMC : Hid (∀ (s : List UInt8) (W : World), s.length ≤ 1000000 → TkS w W c (.slice ao m cp) → Calls Tryz.prog 58 #[.agg #[.int .i64 c.id, .string (T c.proto), .int .i64 c.role, .int .i64 c.phase, .int .i64 c.step, (.slice ao m cp), .string (T c.own), .string (T c.peer), .string (T c.user), .int .i64 c.err], .string (T s)] W fun e w' => e = .returned (.string (T (Au.mac c s))) ∧ TkS w w' c (.slice ao m cp)) := fun s W hs h => (tmac_any c (.slice ao m cp) s W (HK.out.below h.bel) HFN.out hs (HKI.out.below h.bel)).mono fun e w' h' => ⟨h'.1, h.next h'.2⟩
  have HNC : Hid (∀ (W : World), TkS w W c (.slice ao m cp) → Calls Tryz.prog 57 #[.agg #[.int .i64 c.id, .string (T c.proto), .int .i64 c.role, .int .i64 c.phase, .int .i64 c.step, (.slice ao m cp), .string (T c.own), .string (T c.peer), .string (T c.user), .int .i64 c.err]] W fun e w' => e = .returned (.tuple #[.string (T (Au.cl c)), .string (T (Au.sv c))]) ∧ TkS w w' c (.slice ao m cp)) := fun W h => (tnon_any c (.slice ao m cp) W (HK.out.below h.bel)).mono fun e w' h' => ⟨h'.1, h.next h'.2⟩
  have H0 : Hid (TkS w (w.alloc (.cells #[.int .i64 c.id, .string (T c.proto), .int .i64 c.role, .int .i64 c.phase, .int .i64 c.step, (.slice ao m cp), .string (T c.own), .string (T c.peer), .string (T c.user), .int .i64 c.err] 48)) c (.slice ao m cp)) := tk_0
  have HL := Lib.hid (⟨hul, hsl, hcl, hsv⟩ : (Au.user c.key).length ≤ 1000 ∧ (Au.sec c.key).length ≤ 1000 ∧ (Au.cl c).length ≤ 1000 ∧ (Au.sv c).length ≤ 1000)
  have HML := Lib.hid hml
  have HPL := Lib.hid hput
  clear hk hf hK hul hsl hcl hsv hml hput
  by_cases h0 : n = 0
  · have HF := Lib.hid (show Au.msgMutual c n = Au.put (Au.user c.key) ++ Au.cl c from by unfold Au.msgMutual; rw [if_pos h0])
    have b1 : (Au.put (Au.user c.key)).length + (Au.cl c).length ≤ 9223372036854775807 := by have := HPL.out _ HL.out.1; have := HL.out.2.2.1; omega
    have l1 : (Au.user c.key).length ≤ 1000000 := by have := HL.out.1; omega
    go_enter Tryz.func45, Tryz.ntmps45
    go_wp2_with fail
    (with_reducible refine (HNC.out _ H0.out).mono ?_); rintro e w1 ⟨rfl, h1⟩
    have H1 := Lib.hid h1
    obtain ⟨x0, x1, x2, x3, x4, x5, x6, x7, x8, x9, b1⟩ := h1
    clear b1
    go_wp2_with fail
    (with_reducible refine (HU.out _ H1.out).mono ?_); rintro e w2 ⟨rfl, h2⟩
    have H2 := Lib.hid h2
    clear h2 x0 x1 x2 x3 x4 x5 x6 x7 x8 x9
    go_wp2_with fail
    (with_reducible refine (HCT.out _ _ l1 H2.out).mono ?_); rintro e w3 ⟨rfl, h3⟩
    have H3 := Lib.hid h3
    clear h3
    go_wp2_with fail
    try rw [T_append]
    go_ret
    exact ⟨by rw [HF.out]; rfl, H3.out.bel⟩
  have e0 : (n == 0) = false := beq_eq_false_iff_ne.2 h0
  by_cases h1 : n = 1
  · have HF := Lib.hid (show Au.msgMutual c n = Au.sv c ++ Au.mac c ([115, 101, 114, 118, 101, 114] ++ Au.cl c ++ Au.sv c) from by unfold Au.msgMutual; rw [if_neg h0, if_pos h1]; rfl)
    obtain ⟨M, hM⟩ : ∃ M, Au.mac c ([115, 101, 114, 118, 101, 114] ++ Au.cl c ++ Au.sv c) = M := ⟨_, rfl⟩
    have b1 : (Au.sv c).length + M.length ≤ 9223372036854775807 := by have := HL.out.2.2.2; have := HML.out ([115, 101, 114, 118, 101, 114] ++ Au.cl c ++ Au.sv c); rw [hM] at this; omega
    have b2 : 6 + (Au.cl c).length ≤ 9223372036854775807 := by have := HL.out.2.2.1; omega
    have b3 : 6 + (Au.cl c).length + (Au.sv c).length ≤ 9223372036854775807 := by have := HL.out.2.2.1; have := HL.out.2.2.2; omega
    have l1 : ([115, 101, 114, 118, 101, 114] ++ Au.cl c ++ Au.sv c).length ≤ 1000000 := by have := HL.out.2.2.1; have := HL.out.2.2.2; rw [List.length_append, List.length_append]; simp; omega
    have HMC1 := Lib.hid (fun (W : World) (h : TkS w W c (.slice ao m cp)) => HMC.out _ W l1 h)
    rw [hM] at HMC1 HF
    clear hM
    clear h0
    subst h1
    go_enter Tryz.func45, Tryz.ntmps45
    go_wp2_with fail
    (with_reducible refine (HNC.out _ H0.out).mono ?_); rintro e w1 ⟨rfl, h1⟩
    have H1 := Lib.hid h1
    obtain ⟨x0, x1, x2, x3, x4, x5, x6, x7, x8, x9, b1⟩ := h1
    clear b1
    go_wp2_with fail
    try simp only [T_append]
    (refine (HMC1.out _ H1.out).mono ?_); rintro e w2 ⟨rfl, h2⟩
    have H2 := Lib.hid h2
    clear h2 x0 x1 x2 x3 x4 x5 x6 x7 x8 x9
    go_wp2_with fail
    try simp only [T_append]
    go_ret
    exact ⟨by rw [HF.out]; rfl, H2.out.bel⟩
  · have HF := Lib.hid (show Au.msgMutual c n = Au.mac c ([99, 108, 105, 101, 110, 116] ++ Au.cl c ++ Au.sv c) from by unfold Au.msgMutual; rw [if_neg h0, if_neg h1]; rfl)
    have e1 : (n == 1) = false := beq_eq_false_iff_ne.2 h1
    have b2 : 6 + (Au.cl c).length ≤ 9223372036854775807 := by have := HL.out.2.2.1; omega
    have b3 : 6 + (Au.cl c).length + (Au.sv c).length ≤ 9223372036854775807 := by have := HL.out.2.2.1; have := HL.out.2.2.2; omega
    have l1 : ([99, 108, 105, 101, 110, 116] ++ Au.cl c ++ Au.sv c).length ≤ 1000000 := by have := HL.out.2.2.1; have := HL.out.2.2.2; rw [List.length_append, List.length_append]; simp; omega
    have HMC1 := Lib.hid (fun (W : World) (h : TkS w W c (.slice ao m cp)) => HMC.out _ W l1 h)
    go_enter Tryz.func45, Tryz.ntmps45
    go_wp2_with fail
    (with_reducible refine (HNC.out _ H0.out).mono ?_); rintro e w1 ⟨rfl, h1⟩
    have H1 := Lib.hid h1
    obtain ⟨x0, x1, x2, x3, x4, x5, x6, x7, x8, x9, b1⟩ := h1
    clear b1
    go_wp2_with fail
    try simp only [T_append]
    (refine (HMC1.out _ H1.out).mono ?_); rintro e w2 ⟨rfl, h2⟩
    have H2 := Lib.hid h2
    clear h2 x0 x1 x2 x3 x4 x5 x6 x7 x8 x9
    go_wp2_with fail
    go_ret
    exact ⟨by rw [HF.out]; rfl, H2.out.bel⟩
set_option maxRecDepth 20000 in
set_option maxHeartbeats 4000000 in
theorem tpln_any (c : Cnv) (kv : Value) (n : Int) (w : World) (hk : Atts w kv c.key) (hf : Fine c) (hK : KIn w) :
    Calls Tryz.prog 46 #[.agg #[.int .i64 c.id, .string (T c.proto), .int .i64 c.role, .int .i64 c.phase, .int .i64 c.step, kv, .string (T c.own), .string (T c.peer), .string (T c.user), .int .i64 c.err], .int .i64 n] w fun e w' => e = .returned (.string (T (Au.msgPlain c n))) ∧ Below w.heap.size w w' := by
  obtain ⟨ao, m, cp, rfl⟩ := hk.form
  have HK := Lib.hid hk
  have HFN := Lib.hid hf
  have HKI := Lib.hid hK
  have hul := hf.find Au.sUser
  have hsl := hf.find Au.sSecret
  have hcl := Au.cl_le hf.ow hf.pe
  have hsv := Au.sv_le hf.ow hf.pe
  have hml := Au.mac_length c
  have hput : ∀ s : List UInt8, s.length ≤ 1000 → (Au.put s).length ≤ 1002 := fun s h => by have := Au.put_le s; omega
  have HU : Hid (∀ (W : World), TkS w W c (.slice ao m cp) → Calls Tryz.prog 48 #[.agg #[.int .i64 c.id, .string (T c.proto), .int .i64 c.role, .int .i64 c.phase, .int .i64 c.step, (.slice ao m cp), .string (T c.own), .string (T c.peer), .string (T c.user), .int .i64 c.err], .string (T [117, 115, 101, 114])] W fun e w' => e = .returned (.string (T (Au.user c.key))) ∧ TkS w w' c (.slice ao m cp)) := fun W h => (tval_any c (.slice ao m cp) [117, 115, 101, 114] W (HK.out.below h.bel) HFN.out).mono fun e w' h' => ⟨h'.1, h.next h'.2⟩
  have HSC : Hid (∀ (W : World), TkS w W c (.slice ao m cp) → Calls Tryz.prog 48 #[.agg #[.int .i64 c.id, .string (T c.proto), .int .i64 c.role, .int .i64 c.phase, .int .i64 c.step, (.slice ao m cp), .string (T c.own), .string (T c.peer), .string (T c.user), .int .i64 c.err], .string (T [33, 115, 101, 99, 114, 101, 116])] W fun e w' => e = .returned (.string (T (Au.sec c.key))) ∧ TkS w w' c (.slice ao m cp)) := fun W h => (tval_any c (.slice ao m cp) [33, 115, 101, 99, 114, 101, 116] W (HK.out.below h.bel) HFN.out).mono fun e w' h' => ⟨h'.1, h.next h'.2⟩
  have HCT : Hid (∀ (s : List UInt8) (W : World), s.length ≤ 1000000 → TkS w W c (.slice ao m cp) → Calls Tryz.prog 54 #[.string (T s)] W fun e w' => e = .returned (.string (T (Au.put s))) ∧ TkS w w' c (.slice ao m cp)) := fun s W hs h => (counted_any s W hs).mono fun e w' h' => ⟨h'.1, h.next h'.2⟩
  have HMC : Hid (∀ (s : List UInt8) (W : World), s.length ≤ 1000000 → TkS w W c (.slice ao m cp) → Calls Tryz.prog 58 #[.agg #[.int .i64 c.id, .string (T c.proto), .int .i64 c.role, .int .i64 c.phase, .int .i64 c.step, (.slice ao m cp), .string (T c.own), .string (T c.peer), .string (T c.user), .int .i64 c.err], .string (T s)] W fun e w' => e = .returned (.string (T (Au.mac c s))) ∧ TkS w w' c (.slice ao m cp)) := fun s W hs h => (tmac_any c (.slice ao m cp) s W (HK.out.below h.bel) HFN.out hs (HKI.out.below h.bel)).mono fun e w' h' => ⟨h'.1, h.next h'.2⟩
  have HNC : Hid (∀ (W : World), TkS w W c (.slice ao m cp) → Calls Tryz.prog 57 #[.agg #[.int .i64 c.id, .string (T c.proto), .int .i64 c.role, .int .i64 c.phase, .int .i64 c.step, (.slice ao m cp), .string (T c.own), .string (T c.peer), .string (T c.user), .int .i64 c.err]] W fun e w' => e = .returned (.tuple #[.string (T (Au.cl c)), .string (T (Au.sv c))]) ∧ TkS w w' c (.slice ao m cp)) := fun W h => (tnon_any c (.slice ao m cp) W (HK.out.below h.bel)).mono fun e w' h' => ⟨h'.1, h.next h'.2⟩
  have H0 : Hid (TkS w (w.alloc (.cells #[.int .i64 c.id, .string (T c.proto), .int .i64 c.role, .int .i64 c.phase, .int .i64 c.step, (.slice ao m cp), .string (T c.own), .string (T c.peer), .string (T c.user), .int .i64 c.err] 48)) c (.slice ao m cp)) := tk_0
  have HL := Lib.hid (⟨hul, hsl, hcl, hsv⟩ : (Au.user c.key).length ≤ 1000 ∧ (Au.sec c.key).length ≤ 1000 ∧ (Au.cl c).length ≤ 1000 ∧ (Au.sv c).length ≤ 1000)
  have HML := Lib.hid hml
  have HPL := Lib.hid hput
  clear hk hf hK hul hsl hcl hsv hml hput
  by_cases h0 : n = 0
  · have HF := Lib.hid (show Au.msgPlain c n = Au.put (Au.user c.key) ++ Au.put (Au.sec c.key) from by unfold Au.msgPlain; rw [if_pos h0])
    have b1 : (Au.put (Au.user c.key)).length + (Au.put (Au.sec c.key)).length ≤ 9223372036854775807 := by have := HPL.out _ HL.out.1; have := HPL.out _ HL.out.2.1; omega
    have l1 : (Au.user c.key).length ≤ 1000000 := by have := HL.out.1; omega
    have l2 : (Au.sec c.key).length ≤ 1000000 := by have := HL.out.2.1; omega
    subst h0
    go_enter Tryz.func46, Tryz.ntmps46
    go_wp2_with fail
    have H1 := H0
    generalize w.alloc _ = w1 at *
    have HSD : Hid (TkS w w1.drew c (.slice ao m cp)) := H1.out.next (below_drew1 (Below.refl _ _))
    go_region_held_law (fun W' => TkS w W' c (.slice ao m cp)) (first | (with_reducible assumption) | (with_reducible exact HSD.out)) (first | (go_at_call 48; (first | (with_reducible refine (HU.out _ (by assumption)).mono ?_) | (with_reducible refine (HSC.out _ (by assumption)).mono ?_)); rintro e wx ⟨rfl, hkeep⟩) | (go_at_call 54; (with_reducible refine (HCT.out _ _ (by assumption) (by assumption)).mono ?_); rintro e wx ⟨rfl, hkeep⟩) | (go_at_call 58; (with_reducible refine (HMC.out _ _ (by assumption) (by assumption)).mono ?_); rintro e wx ⟨rfl, hkeep⟩))
    all_goals
      go_wp2_with fail
      try rw [T_append]
      go_ret
      exact ⟨by rw [HF.out]; rfl, TkS.bel hkeep⟩
  · have HF := Lib.hid (show Au.msgPlain c n = [111, 107] from by unfold Au.msgPlain; rw [if_neg h0]; rfl)
    have e0 : (n == 0) = false := beq_eq_false_iff_ne.2 h0
    go_enter Tryz.func46, Tryz.ntmps46
    go_wp2_with fail
    go_ret
    exact ⟨by rw [HF.out]; rfl, H0.out.bel⟩
end Go.Proofs.YtjjdaelddicokaaGreatDoor
