/- The law AuthRight returns true. Conditions: the slice of the key holds the given list; the 64 constants in the variable. -/
import Derived.Test.YtjjdaelddicokaaDoorAuAwake
import Derived.Test.YtjjdaelddicokaaDoorAuRRight
set_option linter.unusedVariables false
set_option linter.unusedSimpArgs false
namespace Go.Proofs.YtjjdaelddicokaaDoor
open Go.RowKit
open Au (Att Cnv)
set_option maxRecDepth 100000 in
set_option maxHeartbeats 16000000 in
theorem right_T (c : Cnv) (kv : Value) (w : World) (hk : Atts w kv c.key) (hK : KIn w) :
    Calls Tryd.prog 8 #[.agg #[.int .i64 c.id, .string (T c.proto), .int .i64 c.role, .int .i64 c.phase, .int .i64 c.step, kv, .string (T c.own), .string (T c.peer), .string (T c.user), .int .i64 c.err]] w fun e w' => e = .returned (.bool true) ∧ Below w.heap.size w w' := by
  obtain ⟨ao, m, cp, rfl⟩ := hk.form
  have HB0 := Lib.hid ((Below.refl w.heap.size w).alloc (Nat.le_refl _) (.cells #[.int .i64 c.id, .string (T c.proto), .int .i64 c.role, .int .i64 c.phase, .int .i64 c.step, (.slice ao m cp), .string (T c.own), .string (T c.peer), .string (T c.user), .int .i64 c.err] 28))
  have HR0 := Lib.hid (heap_alloc_new w (.cells #[.int .i64 c.id, .string (T c.proto), .int .i64 c.role, .int .i64 c.phase, .int .i64 c.step, (.slice ao m cp), .string (T c.own), .string (T c.peer), .string (T c.user), .int .i64 c.err] 28))
  have hk0 := hk.below HB0.out
  have HAL := Lib.hid (fun (W : World) (h : Below w.heap.size w W) => awake_any W (hK.below h))
  have HFR := Lib.hid (fun (W : World) (h : Atts W (.slice ao m cp) c.key) => fair_any c (.slice ao m cp) W h)
  have HFF := Lib.hid (fun (h : Au.fair c = true) => Au.fair_fine h)
  clear hk hK
  generalize Au.fair c = fr at *
  go_enter Tryd.func8, Tryd.ntmps8
  go_upto_region 1 with fail
  generalize w.alloc _ = W0 at *
  obtain ⟨⟨x0, x1, x2, x3, x4, x5, x6, x7, x8, x9⟩, _⟩ := cv_reads HR0.out
  have HK0 := Lib.hid hk0
  clear hk0
  go_wp2_with fail
  (with_reducible refine (HFR.out _ HK0.out).mono ?_); rintro e w1 ⟨rfl, b1⟩
  have HB1 := Lib.hid b1
  clear b1 x0 x1 x2 x3 x4 x5 x6 x7 x8 x9
  cases fr with
  | false =>
    go_wp2_with fail
    (with_reducible refine (HAL.out _ (bnext HB0.out HB1.out)).mono ?_); rintro e w2 ⟨rfl, b2⟩
    have HE := Lib.hid (bnext (bnext HB0.out HB1.out) b2)
    clear b2
    go_wp2_with fail
    go_ret
    exact ⟨rfl, HE.out⟩
  | true =>
    have hf := (HFF.out rfl).1
    have HAR := Lib.hid (fun (W : World) (h : BxS W0 W w.heap.size c (.slice ao m cp)) => (aright_any c ao m cp W (HK0.out.below h.bel) hf).mono fun e w' h' => (⟨h'.1, bx_s HR0.out (bnext h.bel h'.2)⟩ : e = .returned (.bool (Au.right c)) ∧ BxS W0 w' w.heap.size c (.slice ao m cp)))
    have HRR := Lib.hid (fun (W : World) (h : BxS W0 W w.heap.size c (.slice ao m cp)) => (rright_any c ao m cp W (HK0.out.below h.bel) hf).mono fun e w' h' => (⟨h'.1, bx_s HR0.out (bnext h.bel h'.2)⟩ : e = .returned (.bool (Au.right c)) ∧ BxS W0 w' w.heap.size c (.slice ao m cp)))
    have HAW := Lib.hid (fun (W : World) (h : BxS W0 W w.heap.size c (.slice ao m cp)) => (HAL.out W (bnext HB0.out h.bel)).mono fun e w' h' => (⟨h'.1, bx_s HR0.out (bnext h.bel h'.2)⟩ : e = .returned (.bool true) ∧ BxS W0 w' w.heap.size c (.slice ao m cp)))
    have HSD : Hid (BxS W0 w1.drew w.heap.size c (.slice ao m cp)) := bx_s HR0.out (below_drew1 HB1.out)
    have HFI := Lib.hid (fun (W : World) (h : BxS W0 W w.heap.size c (.slice ao m cp)) => bnext HB0.out h.bel)
    clear hf HFF HFR HAL HK0 HR0 HB0
    generalize Au.right c = rc at *
    cases rc with
    | true =>
      go_upto_region 3 with fail
      refine wp_region_held_drew (S := (fun W' => BxS W0 W' w.heap.size c (.slice ao m cp))) (by kernel_rfl) HSD.out (fun hHeld => ?_)
      refine wpAnyH_takeD (i := 0) (d := 7) (v := ?va0) rfl rfl (by kernel_rfl) (by kernel_rfl) (by kernel_rfl) (fun _ _ _ h => h) (Or.inl ⟨by rfl, ?yva0⟩) (by assumption) ?rva0
      case yva0 => (intro w hSw; (try dsimp only at hSw); go_simp <;> with_reducible rfl)
      try simp only [Act.put, List.setIfInBounds_toArray, List.set_cons_zero, List.set_cons_succ]
      refine wpAnyH_takeD (i := 2) (d := 9) (v := ?va2) rfl rfl (by kernel_rfl) (by kernel_rfl) (by kernel_rfl) (fun _ _ _ h => h) (Or.inl ⟨by rfl, ?yva2⟩) (by assumption) ?rva2
      case yva2 => (intro w hSw; (try dsimp only at hSw); go_simp <;> with_reducible rfl)
      try simp only [Act.put, List.setIfInBounds_toArray, List.set_cons_zero, List.set_cons_succ]
      refine wpAnyH_ready (rs := [1]) (by kernel_rfl) (by simp) ?_
      refine AllReadyH.cons rfl (fun K hK => ?_) AllReadyH.nil
      go_simp
      go_wp2_with (go_at_call 25; (refine (HAR.out _ (by assumption)).mono ?_); rintro e wx ⟨rfl, hkeep⟩)
      refine hK.out _ _ hkeep (fun hHeld => ?_)
      clear hK K
      try simp only [Act.put, List.setIfInBounds_toArray, List.set_cons_zero, List.set_cons_succ]
      refine wpAnyH_ready (rs := [3]) (by kernel_rfl) (by simp) ?_
      refine AllReadyH.cons rfl (fun K hK => ?_) AllReadyH.nil
      go_simp
      go_wp2_with (go_at_call 18; (refine (HRR.out _ (by assumption)).mono ?_); rintro e wx ⟨rfl, hkeep⟩)
      refine hK.out _ _ hkeep (fun hHeld => ?_)
      clear hK K
      try simp only [Act.put, List.setIfInBounds_toArray, List.set_cons_zero, List.set_cons_succ]
      refine wpAnyH_takeD (i := 4) (d := 11) (v := ?va4) rfl rfl (by kernel_rfl) (by kernel_rfl) (by kernel_rfl) (fun _ _ _ h => h) (Or.inl ⟨by rfl, ?yva4⟩) (by assumption) ?rva4
      case yva4 => (intro w hSw; (try dsimp only at hSw); go_simp <;> with_reducible rfl)
      try simp only [Act.put, List.setIfInBounds_toArray, List.set_cons_zero, List.set_cons_succ]
      refine wpAnyH_takeD (i := 5) (d := 12) (v := ?va5) rfl rfl (by kernel_rfl) (by kernel_rfl) (by kernel_rfl) (fun _ _ _ h => h) (Or.inl ⟨by rfl, ?yva5⟩) (by assumption) ?rva5
      case yva5 => (intro w hSw; (try dsimp only at hSw); go_simp <;> with_reducible rfl)
      try simp only [Act.put, List.setIfInBounds_toArray, List.set_cons_zero, List.set_cons_succ]
      refine wpAnyH_ready (rs := [6]) (by kernel_rfl) (by simp) ?_
      refine AllReadyH.cons rfl (fun K hK => ?_) AllReadyH.nil
      go_simp
      go_wp2_with (go_at_call 10; (refine (HAW.out _ (by assumption)).mono ?_); rintro e wx ⟨rfl, hkeep⟩)
      refine hK.out _ _ hkeep (fun hHeld => ?_)
      clear hK K
      try simp only [Act.put, List.setIfInBounds_toArray, List.set_cons_zero, List.set_cons_succ]
      refine wpAnyH_takeD (i := 7) (d := 14) (v := ?va7) rfl rfl (by kernel_rfl) (by kernel_rfl) (by kernel_rfl) (fun _ _ _ h => h) (Or.inl ⟨by rfl, ?yva7⟩) (by assumption) ?rva7
      case yva7 => (intro w hSw; (try dsimp only at hSw); go_simp <;> with_reducible rfl)
      try simp only [Act.put, List.setIfInBounds_toArray, List.set_cons_zero, List.set_cons_succ]
      refine wpAnyH_takeD (i := 8) (d := 2) (v := ?va8) rfl rfl (by kernel_rfl) (by kernel_rfl) (by kernel_rfl) (fun _ _ _ h => h) (Or.inl ⟨by rfl, ?yva8⟩) (by assumption) ?rva8
      case yva8 => (intro w hSw; (try dsimp only at hSw); go_simp <;> with_reducible rfl)
      try simp only [Act.put, List.setIfInBounds_toArray, List.set_cons_zero, List.set_cons_succ]
      refine wpAnyH_done (by kernel_rfl) ?_ _
      have HE := Lib.hid (HFI.out _ hHeld)
      go_wp2_with fail
      go_ret
      exact ⟨rfl, HE.out⟩
    | false =>
      go_upto_region 3 with fail
      refine wp_region_held_drew (S := (fun W' => BxS W0 W' w.heap.size c (.slice ao m cp))) (by kernel_rfl) HSD.out (fun hHeld => ?_)
      refine wpAnyH_takeD (i := 0) (d := 7) (v := ?vb0) rfl rfl (by kernel_rfl) (by kernel_rfl) (by kernel_rfl) (fun _ _ _ h => h) (Or.inl ⟨by rfl, ?yvb0⟩) (by assumption) ?rvb0
      case yvb0 => (intro w hSw; (try dsimp only at hSw); go_simp <;> with_reducible rfl)
      try simp only [Act.put, List.setIfInBounds_toArray, List.set_cons_zero, List.set_cons_succ]
      refine wpAnyH_takeD (i := 2) (d := 9) (v := ?vb2) rfl rfl (by kernel_rfl) (by kernel_rfl) (by kernel_rfl) (fun _ _ _ h => h) (Or.inl ⟨by rfl, ?yvb2⟩) (by assumption) ?rvb2
      case yvb2 => (intro w hSw; (try dsimp only at hSw); go_simp <;> with_reducible rfl)
      try simp only [Act.put, List.setIfInBounds_toArray, List.set_cons_zero, List.set_cons_succ]
      refine wpAnyH_ready (rs := [1]) (by kernel_rfl) (by simp) ?_
      refine AllReadyH.cons rfl (fun K hK => ?_) AllReadyH.nil
      go_simp
      go_wp2_with (go_at_call 25; (refine (HAR.out _ (by assumption)).mono ?_); rintro e wx ⟨rfl, hkeep⟩)
      refine hK.out _ _ hkeep (fun hHeld => ?_)
      clear hK K
      try simp only [Act.put, List.setIfInBounds_toArray, List.set_cons_zero, List.set_cons_succ]
      refine wpAnyH_ready (rs := [3]) (by kernel_rfl) (by simp) ?_
      refine AllReadyH.cons rfl (fun K hK => ?_) AllReadyH.nil
      go_simp
      go_wp2_with (go_at_call 18; (refine (HRR.out _ (by assumption)).mono ?_); rintro e wx ⟨rfl, hkeep⟩)
      refine hK.out _ _ hkeep (fun hHeld => ?_)
      clear hK K
      try simp only [Act.put, List.setIfInBounds_toArray, List.set_cons_zero, List.set_cons_succ]
      refine wpAnyH_takeD (i := 4) (d := 11) (v := ?vb4) rfl rfl (by kernel_rfl) (by kernel_rfl) (by kernel_rfl) (fun _ _ _ h => h) (Or.inl ⟨by rfl, ?yvb4⟩) (by assumption) ?rvb4
      case yvb4 => (intro w hSw; (try dsimp only at hSw); go_simp <;> with_reducible rfl)
      try simp only [Act.put, List.setIfInBounds_toArray, List.set_cons_zero, List.set_cons_succ]
      refine wpAnyH_takeD (i := 5) (d := 12) (v := ?vb5) rfl rfl (by kernel_rfl) (by kernel_rfl) (by kernel_rfl) (fun _ _ _ h => h) (Or.inl ⟨by rfl, ?yvb5⟩) (by assumption) ?rvb5
      case yvb5 => (intro w hSw; (try dsimp only at hSw); go_simp <;> with_reducible rfl)
      try simp only [Act.put, List.setIfInBounds_toArray, List.set_cons_zero, List.set_cons_succ]
      refine wpAnyH_ready (rs := [6]) (by kernel_rfl) (by simp) ?_
      refine AllReadyH.cons rfl (fun K hK => ?_) AllReadyH.nil
      go_simp
      go_wp2_with (go_at_call 10; (refine (HAW.out _ (by assumption)).mono ?_); rintro e wx ⟨rfl, hkeep⟩)
      refine hK.out _ _ hkeep (fun hHeld => ?_)
      clear hK K
      try simp only [Act.put, List.setIfInBounds_toArray, List.set_cons_zero, List.set_cons_succ]
      refine wpAnyH_takeD (i := 7) (d := 14) (v := ?vb7) rfl rfl (by kernel_rfl) (by kernel_rfl) (by kernel_rfl) (fun _ _ _ h => h) (Or.inl ⟨by rfl, ?yvb7⟩) (by assumption) ?rvb7
      case yvb7 => (intro w hSw; (try dsimp only at hSw); go_simp <;> with_reducible rfl)
      try simp only [Act.put, List.setIfInBounds_toArray, List.set_cons_zero, List.set_cons_succ]
      refine wpAnyH_takeD (i := 8) (d := 2) (v := ?vb8) rfl rfl (by kernel_rfl) (by kernel_rfl) (by kernel_rfl) (fun _ _ _ h => h) (Or.inl ⟨by rfl, ?yvb8⟩) (by assumption) ?rvb8
      case yvb8 => (intro w hSw; (try dsimp only at hSw); go_simp <;> with_reducible rfl)
      try simp only [Act.put, List.setIfInBounds_toArray, List.set_cons_zero, List.set_cons_succ]
      refine wpAnyH_done (by kernel_rfl) ?_ _
      have HE := Lib.hid (HFI.out _ hHeld)
      go_wp2_with fail
      go_ret
      exact ⟨rfl, HE.out⟩
end Go.Proofs.YtjjdaelddicokaaDoor
