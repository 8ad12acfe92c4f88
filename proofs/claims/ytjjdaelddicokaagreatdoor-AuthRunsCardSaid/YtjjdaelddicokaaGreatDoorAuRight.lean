/- What auth.Right returns: Au.right. Conditions: keys and texts of at most 1000; at most 10^6 steps where the other tests pass. -/
import Derived.Test.YtjjdaelddicokaaGreatDoorAuStart
import Derived.Test.YtjjdaelddicokaaGreatDoorSkips
import Derived.Deep.CutBlock
set_option linter.unusedVariables false
set_option linter.unusedSimpArgs false
namespace Go.Proofs.YtjjdaelddicokaaGreatDoor
open Go.RowKit
open Au (Att Cnv)
namespace Au
def rt1 (c : Cnv) : Bool := decide (0 ≤ c.id ∧ c.id ≤ 1048575) && known c.proto && decide (c.role = 1 ∨ c.role = 2)
def rt3 (c : Cnv) : Bool := decide (keyE c.key = 0) && decide (c.own.length = 32) && decide (0 ≤ c.step ∧ c.step ≤ len c.proto)
def rt7 (c : Cnv) : Bool := (failed c || decide (c.phase = phase c)) && decide (c.user = (settled c).user) && (failed c == decide (c.err = 28)) && (failed c || decide (c.err = 0))
def rtk (c : Cnv) : Bool := if knows c = true then decide (c.peer.length = 32) else decide (c.peer = [])
theorem right_eq (c : Cnv) : right c = (rt1 c && (rt3 c && (rt7 c && rtk c))) := by
  unfold right rt1 rt3 rt7 rtk
  simp only [Bool.and_assoc]
theorem keyE_zero (l : List Att) : decide (keyE l = 0) = (decide (check l = 0) && keyOk l) := by
  unfold keyE
  by_cases h : check l = 0
  · rw [if_pos h, decide_eq_true h]
    cases keyOk l <;> simp
  · rw [if_neg h, decide_eq_false h]; rfl
end Au
theorem below_drew0 {w : World} : Below w.heap.size w w.drew := below_drew1 (Below.refl _ _)
set_option maxRecDepth 100000 in
set_option maxHeartbeats 16000000 in
theorem aright_any (c : Cnv) (ao : Option Addr) (m cp : Nat) (w : World) (hk : Atts w (.slice ao m cp) c.key) (hf : Fine c) :
    Calls Tryz.prog 11 #[.agg #[.int .i64 c.id, .string (T c.proto), .int .i64 c.role, .int .i64 c.phase, .int .i64 c.step, (.slice ao m cp), .string (T c.own), .string (T c.peer), .string (T c.user), .int .i64 c.err]] w fun e w' => e = .returned (.bool (Au.right c)) ∧ Below w.heap.size w w' := by
  obtain ⟨RR, hRR⟩ : ∃ r, Au.right c = r := ⟨_, rfl⟩
  have HRR := Lib.hid (hRR.symm.trans (Au.right_eq c))
  rw [hRR]
  have HB0 := Lib.hid ((Below.refl w.heap.size w).alloc (Nat.le_refl _) (.cells #[.int .i64 c.id, .string (T c.proto), .int .i64 c.role, .int .i64 c.phase, .int .i64 c.step, (.slice ao m cp), .string (T c.own), .string (T c.peer), .string (T c.user), .int .i64 c.err] 25))
  have HR0 := Lib.hid (heap_alloc_new w (.cells #[.int .i64 c.id, .string (T c.proto), .int .i64 c.role, .int .i64 c.phase, .int .i64 c.step, (.slice ao m cp), .string (T c.own), .string (T c.peer), .string (T c.user), .int .i64 c.err] 25))
  have hk0 := hk.below HB0.out
  clear hRR
  go_enter Tryz.func11, Tryz.ntmps11
  go_upto_region 1 with fail
  generalize w.alloc _ = W0 at *
  have HSD : Hid (BxS W0 W0.drew w.heap.size c (.slice ao m cp)) := bx_s HR0.out below_drew0
  have HPR := Lib.hid (fun (W : World) (h : BxS W0 W w.heap.size c (.slice ao m cp)) => (protos_any W).mono fun e w' h' => (show ∃ b, e = .returned (.slice (some ⟨b, 0, none⟩) 3 3) ∧ Strs w' (.slice (some ⟨b, 0, none⟩) 3 3) prs ∧ BxS W0 w' w.heap.size c (.slice ao m cp) from by
    obtain ⟨b, h1, h2, h3⟩ := h'
    exact ⟨b, h1, h2, bx_s HR0.out (bnext h.bel h3)⟩))
  have HCO := Lib.hid (fun (b : Nat) (W : World) (h : Strs W (.slice (some ⟨b, 0, none⟩) 3 3) prs) (hS : BxS W0 W w.heap.size c (.slice ao m cp)) => show Calls Tryz.prog 31 #[.slice (some ⟨b, 0, none⟩) 3 3, .string (T c.proto)] W fun e w' => e = .returned (.bool (Au.known c.proto)) ∧ BxS W0 w' w.heap.size c (.slice ao m cp) from by
    have := scontains_any _ prs (T c.proto) W h (by decide)
    rw [prs_has] at this
    exact this.mono fun e w' h' => ⟨h'.1, by rw [← h'.2]; exact hS⟩)
  have HCK := Lib.hid (fun (W : World) (h : BxS W0 W w.heap.size c (.slice ao m cp)) => (achk_any (.slice ao m cp) c.key W (hk0.below h.bel) (by have := hf.kl; omega) hf.fits).mono fun e w' h' => (⟨h'.1, bx_s HR0.out (bnext h.bel h'.2)⟩ : e = .returned (.int .i64 (Au.check c.key)) ∧ BxS W0 w' w.heap.size c (.slice ao m cp)))
  have HIK := Lib.hid (fun (W : World) (h : BxS W0 W w.heap.size c (.slice ao m cp)) => show Calls Tryz.prog 34 #[(.slice ao m cp)] W fun e w' => e = .returned (.bool (Au.keyOk c.key)) ∧ BxS W0 w' w.heap.size c (.slice ao m cp) from by
    have := iskey_any (.slice ao m cp) c.key W (hk0.below h.bel) (by have := hf.kl; omega)
    rw [Au.isKey_eq] at this
    exact this.mono fun e w' h' => ⟨h'.1, bx_s HR0.out (bnext h.bel h'.2)⟩)
  have HLN := Lib.hid (fun (W : World) (h : BxS W0 W w.heap.size c (.slice ao m cp)) => (length_any c.proto W).mono fun e w' h' => (⟨h'.1, by rw [← h'.2]; exact h⟩ : e = .returned (.int .i64 (Au.len c.proto)) ∧ BxS W0 w' w.heap.size c (.slice ao m cp)))
  have HSE := Lib.hid (fun (W : World) (h : Below W0.heap.size W0 W) => settled_any c ao m cp W (hk0.below h) hf)
  have HKN := Lib.hid (fun (hst : c.step ≤ 1000000) (W : World) (h : Below W0.heap.size W0 W) => knows_any c ao m cp W (hk0.below h) hf hst)
  clear hk hk0 hf
  obtain ⟨B1, hB1⟩ : ∃ b, Au.rt1 c = b := ⟨_, rfl⟩
  go_cut [29] (fun t w' => t = .bool (!B1) ∧ Hid (Below W0.heap.size W0 w'))
  case first =>
    repeat (rename (∀ (a : Act) (w : World), Code.wp _ _ _ a w → _) => ax; clear ax)
    clear HRR HCK HIK HLN HSE HKN
    have hv : (decide (0 ≤ c.id ∧ c.id ≤ 1048575) && Au.known c.proto && decide (c.role = 1 ∨ c.role = 2)) = B1 := hB1
    clear hB1
    by_cases a1 : c.id < 0
    · have HBV := Lib.hid (show B1 = false from by rw [← hv, decide_eq_false (by omega)]; rfl)
      clear hv

      go_upto_region 1 with fail
      refine wp_region_held_drew (S := (fun W' => BxS W0 W' w.heap.size c (.slice ao m cp))) (by kernel_rfl) HSD.out (fun hHeld => ?_)
      refine wpAnyH_takeD (i := 0) (d := 5) (v := ?vb0) rfl rfl (by kernel_rfl) (by kernel_rfl) (by kernel_rfl) (fun _ _ _ h => h) (Or.inl ⟨by rfl, ?yvb0⟩) (by assumption) ?rvb0
      case yvb0 => (intro w hSw; (try dsimp only at hSw); go_simp <;> with_reducible rfl)
      try simp only [Act.put, List.setIfInBounds_toArray, List.set_cons_zero, List.set_cons_succ]
      refine wpAnyH_takeD (i := 1) (d := 6) (v := ?vb1) rfl rfl (by kernel_rfl) (by kernel_rfl) (by kernel_rfl) (fun _ _ _ h => h) (Or.inl ⟨by rfl, ?yvb1⟩) (by assumption) ?rvb1
      case yvb1 => (intro w hSw; (try dsimp only at hSw); go_simp <;> with_reducible rfl)
      try simp only [Act.put, List.setIfInBounds_toArray, List.set_cons_zero, List.set_cons_succ]
      refine wpAnyH_takeD (i := 2) (d := 7) (v := ?vb2) rfl rfl (by kernel_rfl) (by kernel_rfl) (by kernel_rfl) (fun _ _ _ h => h) (Or.inl ⟨by rfl, ?yvb2⟩) (by assumption) ?rvb2
      case yvb2 => (intro w hSw; (try dsimp only at hSw); go_simp <;> with_reducible rfl)
      try simp only [Act.put, List.setIfInBounds_toArray, List.set_cons_zero, List.set_cons_succ]
      refine wpAnyH_takeD (i := 3) (d := 8) (v := ?vb3) rfl rfl (by kernel_rfl) (by kernel_rfl) (by kernel_rfl) (fun _ _ _ h => h) (Or.inl ⟨by rfl, ?yvb3⟩) (by assumption) ?rvb3
      case yvb3 => (intro w hSw; (try dsimp only at hSw); go_simp <;> with_reducible rfl)
      try simp only [Act.put, List.setIfInBounds_toArray, List.set_cons_zero, List.set_cons_succ]
      refine wpAnyH_skips (by kernel_rfl) (fun _ _ _ _ h => h) (by assumption) [(4, 9), (5, 10), (6, 11)] 18 _ _ _ rfl (by kernel_rfl) ?_
      simp only [skipAct, skipListed, Act.put, List.setIfInBounds_toArray, List.set_cons_zero, List.set_cons_succ]
      refine wpAnyH_takeD (i := 7) (d := 12) (v := ?vb7) rfl rfl (by kernel_rfl) (by kernel_rfl) (by kernel_rfl) (fun _ _ _ h => h) (Or.inl ⟨by rfl, ?yvb7⟩) (by assumption) ?rvb7
      case yvb7 => (intro w hSw; (try dsimp only at hSw); go_simp <;> with_reducible rfl)
      try simp only [Act.put, List.setIfInBounds_toArray, List.set_cons_zero, List.set_cons_succ]
      refine wpAnyH_takeD (i := 8) (d := 13) (v := ?vb8) rfl rfl (by kernel_rfl) (by kernel_rfl) (by kernel_rfl) (fun _ _ _ h => h) (Or.inl ⟨by rfl, ?yvb8⟩) (by assumption) ?rvb8
      case yvb8 => (intro w hSw; (try dsimp only at hSw); go_simp <;> with_reducible rfl)
      try simp only [Act.put, List.setIfInBounds_toArray, List.set_cons_zero, List.set_cons_succ]
      refine wpAnyH_skips (by kernel_rfl) (fun _ _ _ _ h => h) (by assumption) [(9, 14), (10, 15), (11, 16), (12, 17), (13, 18)] 11 _ _ _ rfl (by kernel_rfl) ?_
      simp only [skipAct, skipListed, Act.put, List.setIfInBounds_toArray, List.set_cons_zero, List.set_cons_succ]
      refine wpAnyH_takeD (i := 14) (d := 19) (v := ?vb14) rfl rfl (by kernel_rfl) (by kernel_rfl) (by kernel_rfl) (fun _ _ _ h => h) (Or.inl ⟨by rfl, ?yvb14⟩) (by assumption) ?rvb14
      case yvb14 => (intro w hSw; (try dsimp only at hSw); go_simp <;> with_reducible rfl)
      try simp only [Act.put, List.setIfInBounds_toArray, List.set_cons_zero, List.set_cons_succ]
      refine wpAnyH_takeD (i := 15) (d := 20) (v := ?vb15) rfl rfl (by kernel_rfl) (by kernel_rfl) (by kernel_rfl) (fun _ _ _ h => h) (Or.inl ⟨by rfl, ?yvb15⟩) (by assumption) ?rvb15
      case yvb15 => (intro w hSw; (try dsimp only at hSw); go_simp <;> with_reducible rfl)
      try simp only [Act.put, List.setIfInBounds_toArray, List.set_cons_zero, List.set_cons_succ]
      refine wpAnyH_skips (by kernel_rfl) (fun _ _ _ _ h => h) (by assumption) [(16, 21), (17, 22), (18, 23), (19, 24), (20, 25), (21, 26), (22, 27), (23, 28)] 1 _ _ _ rfl (by kernel_rfl) ?_
      simp only [skipAct, skipListed, Act.put, List.setIfInBounds_toArray, List.set_cons_zero, List.set_cons_succ]
      refine wpAnyH_takeD (i := 24) (d := 29) (v := ?vb24) rfl rfl (by kernel_rfl) (by kernel_rfl) (by kernel_rfl) (fun _ _ _ h => h) (Or.inl ⟨by rfl, ?yvb24⟩) (by assumption) ?rvb24
      case yvb24 => (intro w hSw; (try dsimp only at hSw); go_simp <;> with_reducible rfl)
      try simp only [Act.put, List.setIfInBounds_toArray, List.set_cons_zero, List.set_cons_succ]
      refine wpAnyH_done (by kernel_rfl) ?_ _
      go_wp2_with fail
      go_meet
      exact ⟨by rw [HBV.out]; rfl, Lib.hid (BxS.bel hHeld)⟩
    have f1 : decide (c.id < 0) = false := decide_eq_false a1
    by_cases a2 : 1048575 < c.id
    · have HBV := Lib.hid (show B1 = false from by rw [← hv, decide_eq_false (by omega)]; rfl)
      clear hv a1

      go_upto_region 1 with fail
      refine wp_region_held_drew (S := (fun W' => BxS W0 W' w.heap.size c (.slice ao m cp))) (by kernel_rfl) HSD.out (fun hHeld => ?_)
      refine wpAnyH_takeD (i := 0) (d := 5) (v := ?vc0) rfl rfl (by kernel_rfl) (by kernel_rfl) (by kernel_rfl) (fun _ _ _ h => h) (Or.inl ⟨by rfl, ?yvc0⟩) (by assumption) ?rvc0
      case yvc0 => (intro w hSw; (try dsimp only at hSw); go_simp <;> with_reducible rfl)
      try simp only [Act.put, List.setIfInBounds_toArray, List.set_cons_zero, List.set_cons_succ]
      refine wpAnyH_takeD (i := 1) (d := 6) (v := ?vc1) rfl rfl (by kernel_rfl) (by kernel_rfl) (by kernel_rfl) (fun _ _ _ h => h) (Or.inl ⟨by rfl, ?yvc1⟩) (by assumption) ?rvc1
      case yvc1 => (intro w hSw; (try dsimp only at hSw); go_simp <;> with_reducible rfl)
      try simp only [Act.put, List.setIfInBounds_toArray, List.set_cons_zero, List.set_cons_succ]
      refine wpAnyH_takeD (i := 2) (d := 7) (v := ?vc2) rfl rfl (by kernel_rfl) (by kernel_rfl) (by kernel_rfl) (fun _ _ _ h => h) (Or.inl ⟨by rfl, ?yvc2⟩) (by assumption) ?rvc2
      case yvc2 => (intro w hSw; (try dsimp only at hSw); go_simp <;> with_reducible rfl)
      try simp only [Act.put, List.setIfInBounds_toArray, List.set_cons_zero, List.set_cons_succ]
      refine wpAnyH_takeD (i := 3) (d := 8) (v := ?vc3) rfl rfl (by kernel_rfl) (by kernel_rfl) (by kernel_rfl) (fun _ _ _ h => h) (Or.inl ⟨by rfl, ?yvc3⟩) (by assumption) ?rvc3
      case yvc3 => (intro w hSw; (try dsimp only at hSw); go_simp <;> with_reducible rfl)
      try simp only [Act.put, List.setIfInBounds_toArray, List.set_cons_zero, List.set_cons_succ]
      refine wpAnyH_takeD (i := 4) (d := 9) (v := ?vc4) rfl rfl (by kernel_rfl) (by kernel_rfl) (by kernel_rfl) (fun _ _ _ h => h) (Or.inl ⟨by rfl, ?yvc4⟩) (by assumption) ?rvc4
      case yvc4 => (intro w hSw; (try dsimp only at hSw); go_simp <;> with_reducible rfl)
      try simp only [Act.put, List.setIfInBounds_toArray, List.set_cons_zero, List.set_cons_succ]
      refine wpAnyH_takeD (i := 5) (d := 10) (v := ?vc5) rfl rfl (by kernel_rfl) (by kernel_rfl) (by kernel_rfl) (fun _ _ _ h => h) (Or.inl ⟨by rfl, ?yvc5⟩) (by assumption) ?rvc5
      case yvc5 => (intro w hSw; (try dsimp only at hSw); go_simp <;> with_reducible rfl)
      try simp only [Act.put, List.setIfInBounds_toArray, List.set_cons_zero, List.set_cons_succ]
      refine wpAnyH_takeD (i := 6) (d := 11) (v := ?vc6) rfl rfl (by kernel_rfl) (by kernel_rfl) (by kernel_rfl) (fun _ _ _ h => h) (Or.inl ⟨by rfl, ?yvc6⟩) (by assumption) ?rvc6
      case yvc6 => (intro w hSw; (try dsimp only at hSw); go_simp <;> with_reducible rfl)
      try simp only [Act.put, List.setIfInBounds_toArray, List.set_cons_zero, List.set_cons_succ]
      refine wpAnyH_takeD (i := 7) (d := 12) (v := ?vc7) rfl rfl (by kernel_rfl) (by kernel_rfl) (by kernel_rfl) (fun _ _ _ h => h) (Or.inl ⟨by rfl, ?yvc7⟩) (by assumption) ?rvc7
      case yvc7 => (intro w hSw; (try dsimp only at hSw); go_simp <;> with_reducible rfl)
      try simp only [Act.put, List.setIfInBounds_toArray, List.set_cons_zero, List.set_cons_succ]
      refine wpAnyH_takeD (i := 8) (d := 13) (v := ?vc8) rfl rfl (by kernel_rfl) (by kernel_rfl) (by kernel_rfl) (fun _ _ _ h => h) (Or.inl ⟨by rfl, ?yvc8⟩) (by assumption) ?rvc8
      case yvc8 => (intro w hSw; (try dsimp only at hSw); go_simp <;> with_reducible rfl)
      try simp only [Act.put, List.setIfInBounds_toArray, List.set_cons_zero, List.set_cons_succ]
      refine wpAnyH_skips (by kernel_rfl) (fun _ _ _ _ h => h) (by assumption) [(9, 14), (10, 15), (11, 16), (12, 17), (13, 18)] 11 _ _ _ rfl (by kernel_rfl) ?_
      simp only [skipAct, skipListed, Act.put, List.setIfInBounds_toArray, List.set_cons_zero, List.set_cons_succ]
      refine wpAnyH_takeD (i := 14) (d := 19) (v := ?vc14) rfl rfl (by kernel_rfl) (by kernel_rfl) (by kernel_rfl) (fun _ _ _ h => h) (Or.inl ⟨by rfl, ?yvc14⟩) (by assumption) ?rvc14
      case yvc14 => (intro w hSw; (try dsimp only at hSw); go_simp <;> with_reducible rfl)
      try simp only [Act.put, List.setIfInBounds_toArray, List.set_cons_zero, List.set_cons_succ]
      refine wpAnyH_takeD (i := 15) (d := 20) (v := ?vc15) rfl rfl (by kernel_rfl) (by kernel_rfl) (by kernel_rfl) (fun _ _ _ h => h) (Or.inl ⟨by rfl, ?yvc15⟩) (by assumption) ?rvc15
      case yvc15 => (intro w hSw; (try dsimp only at hSw); go_simp <;> with_reducible rfl)
      try simp only [Act.put, List.setIfInBounds_toArray, List.set_cons_zero, List.set_cons_succ]
      refine wpAnyH_skips (by kernel_rfl) (fun _ _ _ _ h => h) (by assumption) [(16, 21), (17, 22), (18, 23), (19, 24), (20, 25), (21, 26), (22, 27), (23, 28)] 1 _ _ _ rfl (by kernel_rfl) ?_
      simp only [skipAct, skipListed, Act.put, List.setIfInBounds_toArray, List.set_cons_zero, List.set_cons_succ]
      refine wpAnyH_takeD (i := 24) (d := 29) (v := ?vc24) rfl rfl (by kernel_rfl) (by kernel_rfl) (by kernel_rfl) (fun _ _ _ h => h) (Or.inl ⟨by rfl, ?yvc24⟩) (by assumption) ?rvc24
      case yvc24 => (intro w hSw; (try dsimp only at hSw); go_simp <;> with_reducible rfl)
      try simp only [Act.put, List.setIfInBounds_toArray, List.set_cons_zero, List.set_cons_succ]
      refine wpAnyH_done (by kernel_rfl) ?_ _
      go_wp2_with fail
      go_meet
      exact ⟨by rw [HBV.out]; rfl, Lib.hid (BxS.bel hHeld)⟩
    have f2 : decide (1048575 < c.id) = false := decide_eq_false a2
    rw [decide_eq_true (show 0 ≤ c.id ∧ c.id ≤ 1048575 from by omega), Bool.true_and] at hv
    clear a1 a2
    generalize Au.known c.proto = kb at *
    cases kb with
    | false =>
      have HBV := Lib.hid (show B1 = false from by rw [← hv]; rfl)
      clear hv

      go_upto_region 1 with fail
      refine wp_region_held_drew (S := (fun W' => BxS W0 W' w.heap.size c (.slice ao m cp))) (by kernel_rfl) HSD.out (fun hHeld => ?_)
      refine wpAnyH_takeD (i := 0) (d := 5) (v := ?vd0) rfl rfl (by kernel_rfl) (by kernel_rfl) (by kernel_rfl) (fun _ _ _ h => h) (Or.inl ⟨by rfl, ?yvd0⟩) (by assumption) ?rvd0
      case yvd0 => (intro w hSw; (try dsimp only at hSw); go_simp <;> with_reducible rfl)
      try simp only [Act.put, List.setIfInBounds_toArray, List.set_cons_zero, List.set_cons_succ]
      refine wpAnyH_takeD (i := 1) (d := 6) (v := ?vd1) rfl rfl (by kernel_rfl) (by kernel_rfl) (by kernel_rfl) (fun _ _ _ h => h) (Or.inl ⟨by rfl, ?yvd1⟩) (by assumption) ?rvd1
      case yvd1 => (intro w hSw; (try dsimp only at hSw); go_simp <;> with_reducible rfl)
      try simp only [Act.put, List.setIfInBounds_toArray, List.set_cons_zero, List.set_cons_succ]
      refine wpAnyH_takeD (i := 2) (d := 7) (v := ?vd2) rfl rfl (by kernel_rfl) (by kernel_rfl) (by kernel_rfl) (fun _ _ _ h => h) (Or.inl ⟨by rfl, ?yvd2⟩) (by assumption) ?rvd2
      case yvd2 => (intro w hSw; (try dsimp only at hSw); go_simp <;> with_reducible rfl)
      try simp only [Act.put, List.setIfInBounds_toArray, List.set_cons_zero, List.set_cons_succ]
      refine wpAnyH_takeD (i := 3) (d := 8) (v := ?vd3) rfl rfl (by kernel_rfl) (by kernel_rfl) (by kernel_rfl) (fun _ _ _ h => h) (Or.inl ⟨by rfl, ?yvd3⟩) (by assumption) ?rvd3
      case yvd3 => (intro w hSw; (try dsimp only at hSw); go_simp <;> with_reducible rfl)
      try simp only [Act.put, List.setIfInBounds_toArray, List.set_cons_zero, List.set_cons_succ]
      refine wpAnyH_takeD (i := 4) (d := 9) (v := ?vd4) rfl rfl (by kernel_rfl) (by kernel_rfl) (by kernel_rfl) (fun _ _ _ h => h) (Or.inl ⟨by rfl, ?yvd4⟩) (by assumption) ?rvd4
      case yvd4 => (intro w hSw; (try dsimp only at hSw); go_simp <;> with_reducible rfl)
      try simp only [Act.put, List.setIfInBounds_toArray, List.set_cons_zero, List.set_cons_succ]
      refine wpAnyH_takeD (i := 5) (d := 10) (v := ?vd5) rfl rfl (by kernel_rfl) (by kernel_rfl) (by kernel_rfl) (fun _ _ _ h => h) (Or.inl ⟨by rfl, ?yvd5⟩) (by assumption) ?rvd5
      case yvd5 => (intro w hSw; (try dsimp only at hSw); go_simp <;> with_reducible rfl)
      try simp only [Act.put, List.setIfInBounds_toArray, List.set_cons_zero, List.set_cons_succ]
      refine wpAnyH_takeD (i := 6) (d := 11) (v := ?vd6) rfl rfl (by kernel_rfl) (by kernel_rfl) (by kernel_rfl) (fun _ _ _ h => h) (Or.inl ⟨by rfl, ?yvd6⟩) (by assumption) ?rvd6
      case yvd6 => (intro w hSw; (try dsimp only at hSw); go_simp <;> with_reducible rfl)
      try simp only [Act.put, List.setIfInBounds_toArray, List.set_cons_zero, List.set_cons_succ]
      refine wpAnyH_takeD (i := 7) (d := 12) (v := ?vd7) rfl rfl (by kernel_rfl) (by kernel_rfl) (by kernel_rfl) (fun _ _ _ h => h) (Or.inl ⟨by rfl, ?yvd7⟩) (by assumption) ?rvd7
      case yvd7 => (intro w hSw; (try dsimp only at hSw); go_simp <;> with_reducible rfl)
      try simp only [Act.put, List.setIfInBounds_toArray, List.set_cons_zero, List.set_cons_succ]
      refine wpAnyH_takeD (i := 8) (d := 13) (v := ?vd8) rfl rfl (by kernel_rfl) (by kernel_rfl) (by kernel_rfl) (fun _ _ _ h => h) (Or.inl ⟨by rfl, ?yvd8⟩) (by assumption) ?rvd8
      case yvd8 => (intro w hSw; (try dsimp only at hSw); go_simp <;> with_reducible rfl)
      try simp only [Act.put, List.setIfInBounds_toArray, List.set_cons_zero, List.set_cons_succ]
      refine wpAnyH_takeD (i := 10) (d := 15) (v := ?vd10) rfl rfl (by kernel_rfl) (by kernel_rfl) (by kernel_rfl) (fun _ _ _ h => h) (Or.inl ⟨by rfl, ?yvd10⟩) (by assumption) ?rvd10
      case yvd10 => (intro w hSw; (try dsimp only at hSw); go_simp <;> with_reducible rfl)
      try simp only [Act.put, List.setIfInBounds_toArray, List.set_cons_zero, List.set_cons_succ]
      refine wpAnyH_takeD (i := 11) (d := 16) (v := ?vd11) rfl rfl (by kernel_rfl) (by kernel_rfl) (by kernel_rfl) (fun _ _ _ h => h) (Or.inl ⟨by rfl, ?yvd11⟩) (by assumption) ?rvd11
      case yvd11 => (intro w hSw; (try dsimp only at hSw); go_simp <;> with_reducible rfl)
      try simp only [Act.put, List.setIfInBounds_toArray, List.set_cons_zero, List.set_cons_succ]
      refine wpAnyH_ready (rs := [9]) (by kernel_rfl) (by simp) ?_
      refine AllReadyH.cons rfl (fun K hK => ?_) AllReadyH.nil
      go_simp
      go_wp2_with (go_at_call 32; (refine (HPR.out _ (by assumption)).mono ?_); rintro e wx ⟨pb, rfl, hst, hkeep⟩)
      refine hK.out _ _ hkeep (fun hHeld => ?_)
      clear hK K
      try simp only [Act.put, List.setIfInBounds_toArray, List.set_cons_zero, List.set_cons_succ]
      refine wpAnyH_ready (rs := [12]) (by kernel_rfl) (by simp) ?_
      refine AllReadyH.cons rfl (fun K hK => ?_) AllReadyH.nil
      go_simp
      go_wp2_with (go_at_call 31; (refine (HCO.out _ _ hst (by assumption)).mono ?_); rintro e wx ⟨rfl, hkeep⟩)
      refine hK.out _ _ hkeep (fun hHeld => ?_)
      clear hK K
      try simp only [Act.put, List.setIfInBounds_toArray, List.set_cons_zero, List.set_cons_succ]
      refine wpAnyH_takeD (i := 13) (d := 18) (v := ?vd13) rfl rfl (by kernel_rfl) (by kernel_rfl) (by kernel_rfl) (fun _ _ _ h => h) (Or.inl ⟨by rfl, ?yvd13⟩) (by assumption) ?rvd13
      case yvd13 => (intro w hSw; (try dsimp only at hSw); go_simp <;> with_reducible rfl)
      try simp only [Act.put, List.setIfInBounds_toArray, List.set_cons_zero, List.set_cons_succ]
      refine wpAnyH_takeD (i := 14) (d := 19) (v := ?vd14) rfl rfl (by kernel_rfl) (by kernel_rfl) (by kernel_rfl) (fun _ _ _ h => h) (Or.inl ⟨by rfl, ?yvd14⟩) (by assumption) ?rvd14
      case yvd14 => (intro w hSw; (try dsimp only at hSw); go_simp <;> with_reducible rfl)
      try simp only [Act.put, List.setIfInBounds_toArray, List.set_cons_zero, List.set_cons_succ]
      refine wpAnyH_takeD (i := 15) (d := 20) (v := ?vd15) rfl rfl (by kernel_rfl) (by kernel_rfl) (by kernel_rfl) (fun _ _ _ h => h) (Or.inl ⟨by rfl, ?yvd15⟩) (by assumption) ?rvd15
      case yvd15 => (intro w hSw; (try dsimp only at hSw); go_simp <;> with_reducible rfl)
      try simp only [Act.put, List.setIfInBounds_toArray, List.set_cons_zero, List.set_cons_succ]
      refine wpAnyH_skips (by kernel_rfl) (fun _ _ _ _ h => h) (by assumption) [(16, 21), (17, 22), (18, 23), (19, 24), (20, 25), (21, 26), (22, 27), (23, 28)] 1 _ _ _ rfl (by kernel_rfl) ?_
      simp only [skipAct, skipListed, Act.put, List.setIfInBounds_toArray, List.set_cons_zero, List.set_cons_succ]
      refine wpAnyH_takeD (i := 24) (d := 29) (v := ?vd24) rfl rfl (by kernel_rfl) (by kernel_rfl) (by kernel_rfl) (fun _ _ _ h => h) (Or.inl ⟨by rfl, ?yvd24⟩) (by assumption) ?rvd24
      case yvd24 => (intro w hSw; (try dsimp only at hSw); go_simp <;> with_reducible rfl)
      try simp only [Act.put, List.setIfInBounds_toArray, List.set_cons_zero, List.set_cons_succ]
      refine wpAnyH_done (by kernel_rfl) ?_ _
      go_wp2_with fail
      go_meet
      exact ⟨by rw [HBV.out]; rfl, Lib.hid (BxS.bel hkeep)⟩
    | true =>
      rw [Bool.true_and] at hv
      by_cases a3 : c.role = 1
      · have HBV := Lib.hid (show B1 = true from by rw [← hv, decide_eq_true (.inl a3)])
        have f3 : (c.role != 1) = false := by simpa using a3
        clear hv a3

        go_upto_region 1 with fail
        refine wp_region_held_drew (S := (fun W' => BxS W0 W' w.heap.size c (.slice ao m cp))) (by kernel_rfl) HSD.out (fun hHeld => ?_)
        refine wpAnyH_takeD (i := 0) (d := 5) (v := ?ve0) rfl rfl (by kernel_rfl) (by kernel_rfl) (by kernel_rfl) (fun _ _ _ h => h) (Or.inl ⟨by rfl, ?yve0⟩) (by assumption) ?rve0
        case yve0 => (intro w hSw; (try dsimp only at hSw); go_simp <;> with_reducible rfl)
        try simp only [Act.put, List.setIfInBounds_toArray, List.set_cons_zero, List.set_cons_succ]
        refine wpAnyH_takeD (i := 1) (d := 6) (v := ?ve1) rfl rfl (by kernel_rfl) (by kernel_rfl) (by kernel_rfl) (fun _ _ _ h => h) (Or.inl ⟨by rfl, ?yve1⟩) (by assumption) ?rve1
        case yve1 => (intro w hSw; (try dsimp only at hSw); go_simp <;> with_reducible rfl)
        try simp only [Act.put, List.setIfInBounds_toArray, List.set_cons_zero, List.set_cons_succ]
        refine wpAnyH_takeD (i := 2) (d := 7) (v := ?ve2) rfl rfl (by kernel_rfl) (by kernel_rfl) (by kernel_rfl) (fun _ _ _ h => h) (Or.inl ⟨by rfl, ?yve2⟩) (by assumption) ?rve2
        case yve2 => (intro w hSw; (try dsimp only at hSw); go_simp <;> with_reducible rfl)
        try simp only [Act.put, List.setIfInBounds_toArray, List.set_cons_zero, List.set_cons_succ]
        refine wpAnyH_takeD (i := 3) (d := 8) (v := ?ve3) rfl rfl (by kernel_rfl) (by kernel_rfl) (by kernel_rfl) (fun _ _ _ h => h) (Or.inl ⟨by rfl, ?yve3⟩) (by assumption) ?rve3
        case yve3 => (intro w hSw; (try dsimp only at hSw); go_simp <;> with_reducible rfl)
        try simp only [Act.put, List.setIfInBounds_toArray, List.set_cons_zero, List.set_cons_succ]
        refine wpAnyH_takeD (i := 4) (d := 9) (v := ?ve4) rfl rfl (by kernel_rfl) (by kernel_rfl) (by kernel_rfl) (fun _ _ _ h => h) (Or.inl ⟨by rfl, ?yve4⟩) (by assumption) ?rve4
        case yve4 => (intro w hSw; (try dsimp only at hSw); go_simp <;> with_reducible rfl)
        try simp only [Act.put, List.setIfInBounds_toArray, List.set_cons_zero, List.set_cons_succ]
        refine wpAnyH_takeD (i := 5) (d := 10) (v := ?ve5) rfl rfl (by kernel_rfl) (by kernel_rfl) (by kernel_rfl) (fun _ _ _ h => h) (Or.inl ⟨by rfl, ?yve5⟩) (by assumption) ?rve5
        case yve5 => (intro w hSw; (try dsimp only at hSw); go_simp <;> with_reducible rfl)
        try simp only [Act.put, List.setIfInBounds_toArray, List.set_cons_zero, List.set_cons_succ]
        refine wpAnyH_takeD (i := 6) (d := 11) (v := ?ve6) rfl rfl (by kernel_rfl) (by kernel_rfl) (by kernel_rfl) (fun _ _ _ h => h) (Or.inl ⟨by rfl, ?yve6⟩) (by assumption) ?rve6
        case yve6 => (intro w hSw; (try dsimp only at hSw); go_simp <;> with_reducible rfl)
        try simp only [Act.put, List.setIfInBounds_toArray, List.set_cons_zero, List.set_cons_succ]
        refine wpAnyH_takeD (i := 7) (d := 12) (v := ?ve7) rfl rfl (by kernel_rfl) (by kernel_rfl) (by kernel_rfl) (fun _ _ _ h => h) (Or.inl ⟨by rfl, ?yve7⟩) (by assumption) ?rve7
        case yve7 => (intro w hSw; (try dsimp only at hSw); go_simp <;> with_reducible rfl)
        try simp only [Act.put, List.setIfInBounds_toArray, List.set_cons_zero, List.set_cons_succ]
        refine wpAnyH_takeD (i := 8) (d := 13) (v := ?ve8) rfl rfl (by kernel_rfl) (by kernel_rfl) (by kernel_rfl) (fun _ _ _ h => h) (Or.inl ⟨by rfl, ?yve8⟩) (by assumption) ?rve8
        case yve8 => (intro w hSw; (try dsimp only at hSw); go_simp <;> with_reducible rfl)
        try simp only [Act.put, List.setIfInBounds_toArray, List.set_cons_zero, List.set_cons_succ]
        refine wpAnyH_takeD (i := 10) (d := 15) (v := ?ve10) rfl rfl (by kernel_rfl) (by kernel_rfl) (by kernel_rfl) (fun _ _ _ h => h) (Or.inl ⟨by rfl, ?yve10⟩) (by assumption) ?rve10
        case yve10 => (intro w hSw; (try dsimp only at hSw); go_simp <;> with_reducible rfl)
        try simp only [Act.put, List.setIfInBounds_toArray, List.set_cons_zero, List.set_cons_succ]
        refine wpAnyH_takeD (i := 11) (d := 16) (v := ?ve11) rfl rfl (by kernel_rfl) (by kernel_rfl) (by kernel_rfl) (fun _ _ _ h => h) (Or.inl ⟨by rfl, ?yve11⟩) (by assumption) ?rve11
        case yve11 => (intro w hSw; (try dsimp only at hSw); go_simp <;> with_reducible rfl)
        try simp only [Act.put, List.setIfInBounds_toArray, List.set_cons_zero, List.set_cons_succ]
        refine wpAnyH_ready (rs := [9]) (by kernel_rfl) (by simp) ?_
        refine AllReadyH.cons rfl (fun K hK => ?_) AllReadyH.nil
        go_simp
        go_wp2_with (go_at_call 32; (refine (HPR.out _ (by assumption)).mono ?_); rintro e wx ⟨pb, rfl, hst, hkeep⟩)
        refine hK.out _ _ hkeep (fun hHeld => ?_)
        clear hK K
        try simp only [Act.put, List.setIfInBounds_toArray, List.set_cons_zero, List.set_cons_succ]
        refine wpAnyH_ready (rs := [12]) (by kernel_rfl) (by simp) ?_
        refine AllReadyH.cons rfl (fun K hK => ?_) AllReadyH.nil
        go_simp
        go_wp2_with (go_at_call 31; (refine (HCO.out _ _ hst (by assumption)).mono ?_); rintro e wx ⟨rfl, hkeep⟩)
        refine hK.out _ _ hkeep (fun hHeld => ?_)
        clear hK K
        try simp only [Act.put, List.setIfInBounds_toArray, List.set_cons_zero, List.set_cons_succ]
        refine wpAnyH_takeD (i := 13) (d := 18) (v := ?ve13) rfl rfl (by kernel_rfl) (by kernel_rfl) (by kernel_rfl) (fun _ _ _ h => h) (Or.inl ⟨by rfl, ?yve13⟩) (by assumption) ?rve13
        case yve13 => (intro w hSw; (try dsimp only at hSw); go_simp <;> with_reducible rfl)
        try simp only [Act.put, List.setIfInBounds_toArray, List.set_cons_zero, List.set_cons_succ]
        refine wpAnyH_takeD (i := 14) (d := 19) (v := ?ve14) rfl rfl (by kernel_rfl) (by kernel_rfl) (by kernel_rfl) (fun _ _ _ h => h) (Or.inl ⟨by rfl, ?yve14⟩) (by assumption) ?rve14
        case yve14 => (intro w hSw; (try dsimp only at hSw); go_simp <;> with_reducible rfl)
        try simp only [Act.put, List.setIfInBounds_toArray, List.set_cons_zero, List.set_cons_succ]
        refine wpAnyH_takeD (i := 15) (d := 20) (v := ?ve15) rfl rfl (by kernel_rfl) (by kernel_rfl) (by kernel_rfl) (fun _ _ _ h => h) (Or.inl ⟨by rfl, ?yve15⟩) (by assumption) ?rve15
        case yve15 => (intro w hSw; (try dsimp only at hSw); go_simp <;> with_reducible rfl)
        try simp only [Act.put, List.setIfInBounds_toArray, List.set_cons_zero, List.set_cons_succ]
        refine wpAnyH_takeD (i := 16) (d := 21) (v := ?ve16) rfl rfl (by kernel_rfl) (by kernel_rfl) (by kernel_rfl) (fun _ _ _ h => h) (Or.inl ⟨by rfl, ?yve16⟩) (by assumption) ?rve16
        case yve16 => (intro w hSw; (try dsimp only at hSw); go_simp <;> with_reducible rfl)
        try simp only [Act.put, List.setIfInBounds_toArray, List.set_cons_zero, List.set_cons_succ]
        refine wpAnyH_takeD (i := 17) (d := 22) (v := ?ve17) rfl rfl (by kernel_rfl) (by kernel_rfl) (by kernel_rfl) (fun _ _ _ h => h) (Or.inl ⟨by rfl, ?yve17⟩) (by assumption) ?rve17
        case yve17 => (intro w hSw; (try dsimp only at hSw); go_simp <;> with_reducible rfl)
        try simp only [Act.put, List.setIfInBounds_toArray, List.set_cons_zero, List.set_cons_succ]
        refine wpAnyH_takeD (i := 18) (d := 23) (v := ?ve18) rfl rfl (by kernel_rfl) (by kernel_rfl) (by kernel_rfl) (fun _ _ _ h => h) (Or.inl ⟨by rfl, ?yve18⟩) (by assumption) ?rve18
        case yve18 => (intro w hSw; (try dsimp only at hSw); go_simp <;> with_reducible rfl)
        try simp only [Act.put, List.setIfInBounds_toArray, List.set_cons_zero, List.set_cons_succ]
        refine wpAnyH_takeD (i := 19) (d := 24) (v := ?ve19) rfl rfl (by kernel_rfl) (by kernel_rfl) (by kernel_rfl) (fun _ _ _ h => h) (Or.inl ⟨by rfl, ?yve19⟩) (by assumption) ?rve19
        case yve19 => (intro w hSw; (try dsimp only at hSw); go_simp <;> with_reducible rfl)
        try simp only [Act.put, List.setIfInBounds_toArray, List.set_cons_zero, List.set_cons_succ]
        refine wpAnyH_skips (by kernel_rfl) (fun _ _ _ _ h => h) (by assumption) [(20, 25), (21, 26), (22, 27)] 2 _ _ _ rfl (by kernel_rfl) ?_
        simp only [skipAct, skipListed, Act.put, List.setIfInBounds_toArray, List.set_cons_zero, List.set_cons_succ]
        refine wpAnyH_takeD (i := 23) (d := 28) (v := ?ve23) rfl rfl (by kernel_rfl) (by kernel_rfl) (by kernel_rfl) (fun _ _ _ h => h) (Or.inl ⟨by rfl, ?yve23⟩) (by assumption) ?rve23
        case yve23 => (intro w hSw; (try dsimp only at hSw); go_simp <;> with_reducible rfl)
        try simp only [Act.put, List.setIfInBounds_toArray, List.set_cons_zero, List.set_cons_succ]
        refine wpAnyH_takeD (i := 24) (d := 29) (v := ?ve24) rfl rfl (by kernel_rfl) (by kernel_rfl) (by kernel_rfl) (fun _ _ _ h => h) (Or.inl ⟨by rfl, ?yve24⟩) (by assumption) ?rve24
        case yve24 => (intro w hSw; (try dsimp only at hSw); go_simp <;> with_reducible rfl)
        try simp only [Act.put, List.setIfInBounds_toArray, List.set_cons_zero, List.set_cons_succ]
        refine wpAnyH_done (by kernel_rfl) ?_ _
        go_wp2_with fail
        go_meet
        exact ⟨by rw [HBV.out]; rfl, Lib.hid (BxS.bel hkeep)⟩
      have f3 : (c.role != 1) = true := by simpa using a3
      by_cases a4 : c.role = 2
      · have HBV := Lib.hid (show B1 = true from by rw [← hv, decide_eq_true (.inr a4)])
        have f4 : (c.role != 2) = false := by simpa using a4
        clear hv a3 a4

        go_upto_region 1 with fail
        refine wp_region_held_drew (S := (fun W' => BxS W0 W' w.heap.size c (.slice ao m cp))) (by kernel_rfl) HSD.out (fun hHeld => ?_)
        refine wpAnyH_takeD (i := 0) (d := 5) (v := ?vf0) rfl rfl (by kernel_rfl) (by kernel_rfl) (by kernel_rfl) (fun _ _ _ h => h) (Or.inl ⟨by rfl, ?yvf0⟩) (by assumption) ?rvf0
        case yvf0 => (intro w hSw; (try dsimp only at hSw); go_simp <;> with_reducible rfl)
        try simp only [Act.put, List.setIfInBounds_toArray, List.set_cons_zero, List.set_cons_succ]
        refine wpAnyH_takeD (i := 1) (d := 6) (v := ?vf1) rfl rfl (by kernel_rfl) (by kernel_rfl) (by kernel_rfl) (fun _ _ _ h => h) (Or.inl ⟨by rfl, ?yvf1⟩) (by assumption) ?rvf1
        case yvf1 => (intro w hSw; (try dsimp only at hSw); go_simp <;> with_reducible rfl)
        try simp only [Act.put, List.setIfInBounds_toArray, List.set_cons_zero, List.set_cons_succ]
        refine wpAnyH_takeD (i := 2) (d := 7) (v := ?vf2) rfl rfl (by kernel_rfl) (by kernel_rfl) (by kernel_rfl) (fun _ _ _ h => h) (Or.inl ⟨by rfl, ?yvf2⟩) (by assumption) ?rvf2
        case yvf2 => (intro w hSw; (try dsimp only at hSw); go_simp <;> with_reducible rfl)
        try simp only [Act.put, List.setIfInBounds_toArray, List.set_cons_zero, List.set_cons_succ]
        refine wpAnyH_takeD (i := 3) (d := 8) (v := ?vf3) rfl rfl (by kernel_rfl) (by kernel_rfl) (by kernel_rfl) (fun _ _ _ h => h) (Or.inl ⟨by rfl, ?yvf3⟩) (by assumption) ?rvf3
        case yvf3 => (intro w hSw; (try dsimp only at hSw); go_simp <;> with_reducible rfl)
        try simp only [Act.put, List.setIfInBounds_toArray, List.set_cons_zero, List.set_cons_succ]
        refine wpAnyH_takeD (i := 4) (d := 9) (v := ?vf4) rfl rfl (by kernel_rfl) (by kernel_rfl) (by kernel_rfl) (fun _ _ _ h => h) (Or.inl ⟨by rfl, ?yvf4⟩) (by assumption) ?rvf4
        case yvf4 => (intro w hSw; (try dsimp only at hSw); go_simp <;> with_reducible rfl)
        try simp only [Act.put, List.setIfInBounds_toArray, List.set_cons_zero, List.set_cons_succ]
        refine wpAnyH_takeD (i := 5) (d := 10) (v := ?vf5) rfl rfl (by kernel_rfl) (by kernel_rfl) (by kernel_rfl) (fun _ _ _ h => h) (Or.inl ⟨by rfl, ?yvf5⟩) (by assumption) ?rvf5
        case yvf5 => (intro w hSw; (try dsimp only at hSw); go_simp <;> with_reducible rfl)
        try simp only [Act.put, List.setIfInBounds_toArray, List.set_cons_zero, List.set_cons_succ]
        refine wpAnyH_takeD (i := 6) (d := 11) (v := ?vf6) rfl rfl (by kernel_rfl) (by kernel_rfl) (by kernel_rfl) (fun _ _ _ h => h) (Or.inl ⟨by rfl, ?yvf6⟩) (by assumption) ?rvf6
        case yvf6 => (intro w hSw; (try dsimp only at hSw); go_simp <;> with_reducible rfl)
        try simp only [Act.put, List.setIfInBounds_toArray, List.set_cons_zero, List.set_cons_succ]
        refine wpAnyH_takeD (i := 7) (d := 12) (v := ?vf7) rfl rfl (by kernel_rfl) (by kernel_rfl) (by kernel_rfl) (fun _ _ _ h => h) (Or.inl ⟨by rfl, ?yvf7⟩) (by assumption) ?rvf7
        case yvf7 => (intro w hSw; (try dsimp only at hSw); go_simp <;> with_reducible rfl)
        try simp only [Act.put, List.setIfInBounds_toArray, List.set_cons_zero, List.set_cons_succ]
        refine wpAnyH_takeD (i := 8) (d := 13) (v := ?vf8) rfl rfl (by kernel_rfl) (by kernel_rfl) (by kernel_rfl) (fun _ _ _ h => h) (Or.inl ⟨by rfl, ?yvf8⟩) (by assumption) ?rvf8
        case yvf8 => (intro w hSw; (try dsimp only at hSw); go_simp <;> with_reducible rfl)
        try simp only [Act.put, List.setIfInBounds_toArray, List.set_cons_zero, List.set_cons_succ]
        refine wpAnyH_takeD (i := 10) (d := 15) (v := ?vf10) rfl rfl (by kernel_rfl) (by kernel_rfl) (by kernel_rfl) (fun _ _ _ h => h) (Or.inl ⟨by rfl, ?yvf10⟩) (by assumption) ?rvf10
        case yvf10 => (intro w hSw; (try dsimp only at hSw); go_simp <;> with_reducible rfl)
        try simp only [Act.put, List.setIfInBounds_toArray, List.set_cons_zero, List.set_cons_succ]
        refine wpAnyH_takeD (i := 11) (d := 16) (v := ?vf11) rfl rfl (by kernel_rfl) (by kernel_rfl) (by kernel_rfl) (fun _ _ _ h => h) (Or.inl ⟨by rfl, ?yvf11⟩) (by assumption) ?rvf11
        case yvf11 => (intro w hSw; (try dsimp only at hSw); go_simp <;> with_reducible rfl)
        try simp only [Act.put, List.setIfInBounds_toArray, List.set_cons_zero, List.set_cons_succ]
        refine wpAnyH_ready (rs := [9]) (by kernel_rfl) (by simp) ?_
        refine AllReadyH.cons rfl (fun K hK => ?_) AllReadyH.nil
        go_simp
        go_wp2_with (go_at_call 32; (refine (HPR.out _ (by assumption)).mono ?_); rintro e wx ⟨pb, rfl, hst, hkeep⟩)
        refine hK.out _ _ hkeep (fun hHeld => ?_)
        clear hK K
        try simp only [Act.put, List.setIfInBounds_toArray, List.set_cons_zero, List.set_cons_succ]
        refine wpAnyH_ready (rs := [12]) (by kernel_rfl) (by simp) ?_
        refine AllReadyH.cons rfl (fun K hK => ?_) AllReadyH.nil
        go_simp
        go_wp2_with (go_at_call 31; (refine (HCO.out _ _ hst (by assumption)).mono ?_); rintro e wx ⟨rfl, hkeep⟩)
        refine hK.out _ _ hkeep (fun hHeld => ?_)
        clear hK K
        try simp only [Act.put, List.setIfInBounds_toArray, List.set_cons_zero, List.set_cons_succ]
        refine wpAnyH_takeD (i := 13) (d := 18) (v := ?vf13) rfl rfl (by kernel_rfl) (by kernel_rfl) (by kernel_rfl) (fun _ _ _ h => h) (Or.inl ⟨by rfl, ?yvf13⟩) (by assumption) ?rvf13
        case yvf13 => (intro w hSw; (try dsimp only at hSw); go_simp <;> with_reducible rfl)
        try simp only [Act.put, List.setIfInBounds_toArray, List.set_cons_zero, List.set_cons_succ]
        refine wpAnyH_takeD (i := 14) (d := 19) (v := ?vf14) rfl rfl (by kernel_rfl) (by kernel_rfl) (by kernel_rfl) (fun _ _ _ h => h) (Or.inl ⟨by rfl, ?yvf14⟩) (by assumption) ?rvf14
        case yvf14 => (intro w hSw; (try dsimp only at hSw); go_simp <;> with_reducible rfl)
        try simp only [Act.put, List.setIfInBounds_toArray, List.set_cons_zero, List.set_cons_succ]
        refine wpAnyH_takeD (i := 15) (d := 20) (v := ?vf15) rfl rfl (by kernel_rfl) (by kernel_rfl) (by kernel_rfl) (fun _ _ _ h => h) (Or.inl ⟨by rfl, ?yvf15⟩) (by assumption) ?rvf15
        case yvf15 => (intro w hSw; (try dsimp only at hSw); go_simp <;> with_reducible rfl)
        try simp only [Act.put, List.setIfInBounds_toArray, List.set_cons_zero, List.set_cons_succ]
        refine wpAnyH_takeD (i := 16) (d := 21) (v := ?vf16) rfl rfl (by kernel_rfl) (by kernel_rfl) (by kernel_rfl) (fun _ _ _ h => h) (Or.inl ⟨by rfl, ?yvf16⟩) (by assumption) ?rvf16
        case yvf16 => (intro w hSw; (try dsimp only at hSw); go_simp <;> with_reducible rfl)
        try simp only [Act.put, List.setIfInBounds_toArray, List.set_cons_zero, List.set_cons_succ]
        refine wpAnyH_takeD (i := 17) (d := 22) (v := ?vf17) rfl rfl (by kernel_rfl) (by kernel_rfl) (by kernel_rfl) (fun _ _ _ h => h) (Or.inl ⟨by rfl, ?yvf17⟩) (by assumption) ?rvf17
        case yvf17 => (intro w hSw; (try dsimp only at hSw); go_simp <;> with_reducible rfl)
        try simp only [Act.put, List.setIfInBounds_toArray, List.set_cons_zero, List.set_cons_succ]
        refine wpAnyH_takeD (i := 18) (d := 23) (v := ?vf18) rfl rfl (by kernel_rfl) (by kernel_rfl) (by kernel_rfl) (fun _ _ _ h => h) (Or.inl ⟨by rfl, ?yvf18⟩) (by assumption) ?rvf18
        case yvf18 => (intro w hSw; (try dsimp only at hSw); go_simp <;> with_reducible rfl)
        try simp only [Act.put, List.setIfInBounds_toArray, List.set_cons_zero, List.set_cons_succ]
        refine wpAnyH_takeD (i := 19) (d := 24) (v := ?vf19) rfl rfl (by kernel_rfl) (by kernel_rfl) (by kernel_rfl) (fun _ _ _ h => h) (Or.inl ⟨by rfl, ?yvf19⟩) (by assumption) ?rvf19
        case yvf19 => (intro w hSw; (try dsimp only at hSw); go_simp <;> with_reducible rfl)
        try simp only [Act.put, List.setIfInBounds_toArray, List.set_cons_zero, List.set_cons_succ]
        refine wpAnyH_takeD (i := 20) (d := 25) (v := ?vf20) rfl rfl (by kernel_rfl) (by kernel_rfl) (by kernel_rfl) (fun _ _ _ h => h) (Or.inl ⟨by rfl, ?yvf20⟩) (by assumption) ?rvf20
        case yvf20 => (intro w hSw; (try dsimp only at hSw); go_simp <;> with_reducible rfl)
        try simp only [Act.put, List.setIfInBounds_toArray, List.set_cons_zero, List.set_cons_succ]
        refine wpAnyH_takeD (i := 21) (d := 26) (v := ?vf21) rfl rfl (by kernel_rfl) (by kernel_rfl) (by kernel_rfl) (fun _ _ _ h => h) (Or.inl ⟨by rfl, ?yvf21⟩) (by assumption) ?rvf21
        case yvf21 => (intro w hSw; (try dsimp only at hSw); go_simp <;> with_reducible rfl)
        try simp only [Act.put, List.setIfInBounds_toArray, List.set_cons_zero, List.set_cons_succ]
        refine wpAnyH_takeD (i := 22) (d := 27) (v := ?vf22) rfl rfl (by kernel_rfl) (by kernel_rfl) (by kernel_rfl) (fun _ _ _ h => h) (Or.inl ⟨by rfl, ?yvf22⟩) (by assumption) ?rvf22
        case yvf22 => (intro w hSw; (try dsimp only at hSw); go_simp <;> with_reducible rfl)
        try simp only [Act.put, List.setIfInBounds_toArray, List.set_cons_zero, List.set_cons_succ]
        refine wpAnyH_takeD (i := 23) (d := 28) (v := ?vf23) rfl rfl (by kernel_rfl) (by kernel_rfl) (by kernel_rfl) (fun _ _ _ h => h) (Or.inl ⟨by rfl, ?yvf23⟩) (by assumption) ?rvf23
        case yvf23 => (intro w hSw; (try dsimp only at hSw); go_simp <;> with_reducible rfl)
        try simp only [Act.put, List.setIfInBounds_toArray, List.set_cons_zero, List.set_cons_succ]
        refine wpAnyH_takeD (i := 24) (d := 29) (v := ?vf24) rfl rfl (by kernel_rfl) (by kernel_rfl) (by kernel_rfl) (fun _ _ _ h => h) (Or.inl ⟨by rfl, ?yvf24⟩) (by assumption) ?rvf24
        case yvf24 => (intro w hSw; (try dsimp only at hSw); go_simp <;> with_reducible rfl)
        try simp only [Act.put, List.setIfInBounds_toArray, List.set_cons_zero, List.set_cons_succ]
        refine wpAnyH_done (by kernel_rfl) ?_ _
        go_wp2_with fail
        go_meet
        exact ⟨by rw [HBV.out]; rfl, Lib.hid (BxS.bel hkeep)⟩
      · have HBV := Lib.hid (show B1 = false from by rw [← hv, decide_eq_false (by omega)])
        have f4 : (c.role != 2) = true := by simpa using a4
        clear hv a3 a4

        go_upto_region 1 with fail
        refine wp_region_held_drew (S := (fun W' => BxS W0 W' w.heap.size c (.slice ao m cp))) (by kernel_rfl) HSD.out (fun hHeld => ?_)
        refine wpAnyH_takeD (i := 0) (d := 5) (v := ?vg0) rfl rfl (by kernel_rfl) (by kernel_rfl) (by kernel_rfl) (fun _ _ _ h => h) (Or.inl ⟨by rfl, ?yvg0⟩) (by assumption) ?rvg0
        case yvg0 => (intro w hSw; (try dsimp only at hSw); go_simp <;> with_reducible rfl)
        try simp only [Act.put, List.setIfInBounds_toArray, List.set_cons_zero, List.set_cons_succ]
        refine wpAnyH_takeD (i := 1) (d := 6) (v := ?vg1) rfl rfl (by kernel_rfl) (by kernel_rfl) (by kernel_rfl) (fun _ _ _ h => h) (Or.inl ⟨by rfl, ?yvg1⟩) (by assumption) ?rvg1
        case yvg1 => (intro w hSw; (try dsimp only at hSw); go_simp <;> with_reducible rfl)
        try simp only [Act.put, List.setIfInBounds_toArray, List.set_cons_zero, List.set_cons_succ]
        refine wpAnyH_takeD (i := 2) (d := 7) (v := ?vg2) rfl rfl (by kernel_rfl) (by kernel_rfl) (by kernel_rfl) (fun _ _ _ h => h) (Or.inl ⟨by rfl, ?yvg2⟩) (by assumption) ?rvg2
        case yvg2 => (intro w hSw; (try dsimp only at hSw); go_simp <;> with_reducible rfl)
        try simp only [Act.put, List.setIfInBounds_toArray, List.set_cons_zero, List.set_cons_succ]
        refine wpAnyH_takeD (i := 3) (d := 8) (v := ?vg3) rfl rfl (by kernel_rfl) (by kernel_rfl) (by kernel_rfl) (fun _ _ _ h => h) (Or.inl ⟨by rfl, ?yvg3⟩) (by assumption) ?rvg3
        case yvg3 => (intro w hSw; (try dsimp only at hSw); go_simp <;> with_reducible rfl)
        try simp only [Act.put, List.setIfInBounds_toArray, List.set_cons_zero, List.set_cons_succ]
        refine wpAnyH_takeD (i := 4) (d := 9) (v := ?vg4) rfl rfl (by kernel_rfl) (by kernel_rfl) (by kernel_rfl) (fun _ _ _ h => h) (Or.inl ⟨by rfl, ?yvg4⟩) (by assumption) ?rvg4
        case yvg4 => (intro w hSw; (try dsimp only at hSw); go_simp <;> with_reducible rfl)
        try simp only [Act.put, List.setIfInBounds_toArray, List.set_cons_zero, List.set_cons_succ]
        refine wpAnyH_takeD (i := 5) (d := 10) (v := ?vg5) rfl rfl (by kernel_rfl) (by kernel_rfl) (by kernel_rfl) (fun _ _ _ h => h) (Or.inl ⟨by rfl, ?yvg5⟩) (by assumption) ?rvg5
        case yvg5 => (intro w hSw; (try dsimp only at hSw); go_simp <;> with_reducible rfl)
        try simp only [Act.put, List.setIfInBounds_toArray, List.set_cons_zero, List.set_cons_succ]
        refine wpAnyH_takeD (i := 6) (d := 11) (v := ?vg6) rfl rfl (by kernel_rfl) (by kernel_rfl) (by kernel_rfl) (fun _ _ _ h => h) (Or.inl ⟨by rfl, ?yvg6⟩) (by assumption) ?rvg6
        case yvg6 => (intro w hSw; (try dsimp only at hSw); go_simp <;> with_reducible rfl)
        try simp only [Act.put, List.setIfInBounds_toArray, List.set_cons_zero, List.set_cons_succ]
        refine wpAnyH_takeD (i := 7) (d := 12) (v := ?vg7) rfl rfl (by kernel_rfl) (by kernel_rfl) (by kernel_rfl) (fun _ _ _ h => h) (Or.inl ⟨by rfl, ?yvg7⟩) (by assumption) ?rvg7
        case yvg7 => (intro w hSw; (try dsimp only at hSw); go_simp <;> with_reducible rfl)
        try simp only [Act.put, List.setIfInBounds_toArray, List.set_cons_zero, List.set_cons_succ]
        refine wpAnyH_takeD (i := 8) (d := 13) (v := ?vg8) rfl rfl (by kernel_rfl) (by kernel_rfl) (by kernel_rfl) (fun _ _ _ h => h) (Or.inl ⟨by rfl, ?yvg8⟩) (by assumption) ?rvg8
        case yvg8 => (intro w hSw; (try dsimp only at hSw); go_simp <;> with_reducible rfl)
        try simp only [Act.put, List.setIfInBounds_toArray, List.set_cons_zero, List.set_cons_succ]
        refine wpAnyH_takeD (i := 10) (d := 15) (v := ?vg10) rfl rfl (by kernel_rfl) (by kernel_rfl) (by kernel_rfl) (fun _ _ _ h => h) (Or.inl ⟨by rfl, ?yvg10⟩) (by assumption) ?rvg10
        case yvg10 => (intro w hSw; (try dsimp only at hSw); go_simp <;> with_reducible rfl)
        try simp only [Act.put, List.setIfInBounds_toArray, List.set_cons_zero, List.set_cons_succ]
        refine wpAnyH_takeD (i := 11) (d := 16) (v := ?vg11) rfl rfl (by kernel_rfl) (by kernel_rfl) (by kernel_rfl) (fun _ _ _ h => h) (Or.inl ⟨by rfl, ?yvg11⟩) (by assumption) ?rvg11
        case yvg11 => (intro w hSw; (try dsimp only at hSw); go_simp <;> with_reducible rfl)
        try simp only [Act.put, List.setIfInBounds_toArray, List.set_cons_zero, List.set_cons_succ]
        refine wpAnyH_ready (rs := [9]) (by kernel_rfl) (by simp) ?_
        refine AllReadyH.cons rfl (fun K hK => ?_) AllReadyH.nil
        go_simp
        go_wp2_with (go_at_call 32; (refine (HPR.out _ (by assumption)).mono ?_); rintro e wx ⟨pb, rfl, hst, hkeep⟩)
        refine hK.out _ _ hkeep (fun hHeld => ?_)
        clear hK K
        try simp only [Act.put, List.setIfInBounds_toArray, List.set_cons_zero, List.set_cons_succ]
        refine wpAnyH_ready (rs := [12]) (by kernel_rfl) (by simp) ?_
        refine AllReadyH.cons rfl (fun K hK => ?_) AllReadyH.nil
        go_simp
        go_wp2_with (go_at_call 31; (refine (HCO.out _ _ hst (by assumption)).mono ?_); rintro e wx ⟨rfl, hkeep⟩)
        refine hK.out _ _ hkeep (fun hHeld => ?_)
        clear hK K
        try simp only [Act.put, List.setIfInBounds_toArray, List.set_cons_zero, List.set_cons_succ]
        refine wpAnyH_takeD (i := 13) (d := 18) (v := ?vg13) rfl rfl (by kernel_rfl) (by kernel_rfl) (by kernel_rfl) (fun _ _ _ h => h) (Or.inl ⟨by rfl, ?yvg13⟩) (by assumption) ?rvg13
        case yvg13 => (intro w hSw; (try dsimp only at hSw); go_simp <;> with_reducible rfl)
        try simp only [Act.put, List.setIfInBounds_toArray, List.set_cons_zero, List.set_cons_succ]
        refine wpAnyH_takeD (i := 14) (d := 19) (v := ?vg14) rfl rfl (by kernel_rfl) (by kernel_rfl) (by kernel_rfl) (fun _ _ _ h => h) (Or.inl ⟨by rfl, ?yvg14⟩) (by assumption) ?rvg14
        case yvg14 => (intro w hSw; (try dsimp only at hSw); go_simp <;> with_reducible rfl)
        try simp only [Act.put, List.setIfInBounds_toArray, List.set_cons_zero, List.set_cons_succ]
        refine wpAnyH_takeD (i := 15) (d := 20) (v := ?vg15) rfl rfl (by kernel_rfl) (by kernel_rfl) (by kernel_rfl) (fun _ _ _ h => h) (Or.inl ⟨by rfl, ?yvg15⟩) (by assumption) ?rvg15
        case yvg15 => (intro w hSw; (try dsimp only at hSw); go_simp <;> with_reducible rfl)
        try simp only [Act.put, List.setIfInBounds_toArray, List.set_cons_zero, List.set_cons_succ]
        refine wpAnyH_takeD (i := 16) (d := 21) (v := ?vg16) rfl rfl (by kernel_rfl) (by kernel_rfl) (by kernel_rfl) (fun _ _ _ h => h) (Or.inl ⟨by rfl, ?yvg16⟩) (by assumption) ?rvg16
        case yvg16 => (intro w hSw; (try dsimp only at hSw); go_simp <;> with_reducible rfl)
        try simp only [Act.put, List.setIfInBounds_toArray, List.set_cons_zero, List.set_cons_succ]
        refine wpAnyH_takeD (i := 17) (d := 22) (v := ?vg17) rfl rfl (by kernel_rfl) (by kernel_rfl) (by kernel_rfl) (fun _ _ _ h => h) (Or.inl ⟨by rfl, ?yvg17⟩) (by assumption) ?rvg17
        case yvg17 => (intro w hSw; (try dsimp only at hSw); go_simp <;> with_reducible rfl)
        try simp only [Act.put, List.setIfInBounds_toArray, List.set_cons_zero, List.set_cons_succ]
        refine wpAnyH_takeD (i := 18) (d := 23) (v := ?vg18) rfl rfl (by kernel_rfl) (by kernel_rfl) (by kernel_rfl) (fun _ _ _ h => h) (Or.inl ⟨by rfl, ?yvg18⟩) (by assumption) ?rvg18
        case yvg18 => (intro w hSw; (try dsimp only at hSw); go_simp <;> with_reducible rfl)
        try simp only [Act.put, List.setIfInBounds_toArray, List.set_cons_zero, List.set_cons_succ]
        refine wpAnyH_takeD (i := 19) (d := 24) (v := ?vg19) rfl rfl (by kernel_rfl) (by kernel_rfl) (by kernel_rfl) (fun _ _ _ h => h) (Or.inl ⟨by rfl, ?yvg19⟩) (by assumption) ?rvg19
        case yvg19 => (intro w hSw; (try dsimp only at hSw); go_simp <;> with_reducible rfl)
        try simp only [Act.put, List.setIfInBounds_toArray, List.set_cons_zero, List.set_cons_succ]
        refine wpAnyH_takeD (i := 20) (d := 25) (v := ?vg20) rfl rfl (by kernel_rfl) (by kernel_rfl) (by kernel_rfl) (fun _ _ _ h => h) (Or.inl ⟨by rfl, ?yvg20⟩) (by assumption) ?rvg20
        case yvg20 => (intro w hSw; (try dsimp only at hSw); go_simp <;> with_reducible rfl)
        try simp only [Act.put, List.setIfInBounds_toArray, List.set_cons_zero, List.set_cons_succ]
        refine wpAnyH_takeD (i := 21) (d := 26) (v := ?vg21) rfl rfl (by kernel_rfl) (by kernel_rfl) (by kernel_rfl) (fun _ _ _ h => h) (Or.inl ⟨by rfl, ?yvg21⟩) (by assumption) ?rvg21
        case yvg21 => (intro w hSw; (try dsimp only at hSw); go_simp <;> with_reducible rfl)
        try simp only [Act.put, List.setIfInBounds_toArray, List.set_cons_zero, List.set_cons_succ]
        refine wpAnyH_takeD (i := 22) (d := 27) (v := ?vg22) rfl rfl (by kernel_rfl) (by kernel_rfl) (by kernel_rfl) (fun _ _ _ h => h) (Or.inl ⟨by rfl, ?yvg22⟩) (by assumption) ?rvg22
        case yvg22 => (intro w hSw; (try dsimp only at hSw); go_simp <;> with_reducible rfl)
        try simp only [Act.put, List.setIfInBounds_toArray, List.set_cons_zero, List.set_cons_succ]
        refine wpAnyH_takeD (i := 23) (d := 28) (v := ?vg23) rfl rfl (by kernel_rfl) (by kernel_rfl) (by kernel_rfl) (fun _ _ _ h => h) (Or.inl ⟨by rfl, ?yvg23⟩) (by assumption) ?rvg23
        case yvg23 => (intro w hSw; (try dsimp only at hSw); go_simp <;> with_reducible rfl)
        try simp only [Act.put, List.setIfInBounds_toArray, List.set_cons_zero, List.set_cons_succ]
        refine wpAnyH_takeD (i := 24) (d := 29) (v := ?vg24) rfl rfl (by kernel_rfl) (by kernel_rfl) (by kernel_rfl) (fun _ _ _ h => h) (Or.inl ⟨by rfl, ?yvg24⟩) (by assumption) ?rvg24
        case yvg24 => (intro w hSw; (try dsimp only at hSw); go_simp <;> with_reducible rfl)
        try simp only [Act.put, List.setIfInBounds_toArray, List.set_cons_zero, List.set_cons_succ]
        refine wpAnyH_done (by kernel_rfl) ?_ _
        go_wp2_with fail
        go_meet
        exact ⟨by rw [HBV.out]; rfl, Lib.hid (BxS.bel hkeep)⟩
  case rest =>
  obtain ⟨rfl, HB1⟩ := hcut
  clear HPR HCO HSD
  cases B1 with
  | false =>
    have HF := Lib.hid (show RR = false from by rw [HRR.out, hB1]; rfl)
    have HBF := Lib.hid (bnext HB0.out HB1.out)
    clear HRR hB1
    go_wp2_with fail
    go_ret
    exact ⟨by rw [HF.out]; rfl, HBF.out⟩
  | true =>
    have HRR3 := Lib.hid (show RR = (Au.rt3 c && (Au.rt7 c && Au.rtk c)) from by rw [HRR.out, hB1]; rfl)
    clear HRR hB1
    go_upto_region 3 with fail
    obtain ⟨B3, hB3⟩ : ∃ b, Au.rt3 c = b := ⟨_, rfl⟩
    have HSD3 := Lib.hid (bx_s (kv := (.slice ao m cp)) HR0.out (below_drew1 HB1.out))
    clear HB1
    go_cut [58] (fun t w' => t = .bool (!B3) ∧ Hid (Below W0.heap.size W0 w'))
    case first =>
      repeat (rename (∀ (a : Act) (w : World), Code.wp _ _ _ a w → _) => ax; clear ax)
      clear HRR3 HSE HKN
      have hv : (decide (Au.check c.key = 0) && Au.keyOk c.key && decide (c.own.length = 32) && decide (0 ≤ c.step ∧ c.step ≤ Au.len c.proto)) = B3 := by rw [← Au.keyE_zero]; exact hB3
      clear hB3
      generalize Au.check c.key = ck at *
      generalize Au.keyOk c.key = kb at *
      generalize Au.len c.proto = ln at *
      by_cases a1 : ck = 0
      rotate_left
      · have HBV := Lib.hid (show B3 = false from by rw [← hv, decide_eq_false a1]; rfl)
        have f1 : (ck != 0) = true := by simpa using a1
        clear hv a1

        go_upto_region 3 with fail
        refine wp_region_held_drew (S := (fun W' => BxS W0 W' w.heap.size c (.slice ao m cp))) (by kernel_rfl) HSD3.out (fun hHeld => ?_)
        refine wpAnyH_takeD (i := 0) (d := 30) (v := ?vh0) rfl rfl (by kernel_rfl) (by kernel_rfl) (by kernel_rfl) (fun _ _ _ h => h) (Or.inl ⟨by rfl, ?yvh0⟩) (by assumption) ?rvh0
        case yvh0 => (intro w hSw; (try dsimp only at hSw); go_simp <;> with_reducible rfl)
        try simp only [Act.put, List.setIfInBounds_toArray, List.set_cons_zero, List.set_cons_succ]
        refine wpAnyH_takeD (i := 1) (d := 31) (v := ?vh1) rfl rfl (by kernel_rfl) (by kernel_rfl) (by kernel_rfl) (fun _ _ _ h => h) (Or.inl ⟨by rfl, ?yvh1⟩) (by assumption) ?rvh1
        case yvh1 => (intro w hSw; (try dsimp only at hSw); go_simp <;> with_reducible rfl)
        try simp only [Act.put, List.setIfInBounds_toArray, List.set_cons_zero, List.set_cons_succ]
        refine wpAnyH_ready (rs := [2]) (by kernel_rfl) (by simp) ?_
        refine AllReadyH.cons rfl (fun K hK => ?_) AllReadyH.nil
        go_simp
        go_wp2_with (go_at_call 33; (refine (HCK.out _ (by assumption)).mono ?_); rintro e wx ⟨rfl, hkeep⟩)
        refine hK.out _ _ hkeep (fun hHeld => ?_)
        clear hK K
        try simp only [Act.put, List.setIfInBounds_toArray, List.set_cons_zero, List.set_cons_succ]
        refine wpAnyH_takeD (i := 3) (d := 33) (v := ?vh3) rfl rfl (by kernel_rfl) (by kernel_rfl) (by kernel_rfl) (fun _ _ _ h => h) (Or.inl ⟨by rfl, ?yvh3⟩) (by assumption) ?rvh3
        case yvh3 => (intro w hSw; (try dsimp only at hSw); go_simp <;> with_reducible rfl)
        try simp only [Act.put, List.setIfInBounds_toArray, List.set_cons_zero, List.set_cons_succ]
        refine wpAnyH_takeD (i := 4) (d := 34) (v := ?vh4) rfl rfl (by kernel_rfl) (by kernel_rfl) (by kernel_rfl) (fun _ _ _ h => h) (Or.inl ⟨by rfl, ?yvh4⟩) (by assumption) ?rvh4
        case yvh4 => (intro w hSw; (try dsimp only at hSw); go_simp <;> with_reducible rfl)
        try simp only [Act.put, List.setIfInBounds_toArray, List.set_cons_zero, List.set_cons_succ]
        refine wpAnyH_skips (by kernel_rfl) (fun _ _ _ _ h => h) (by assumption) [(5, 35), (6, 36), (7, 37), (8, 38)] 20 _ _ _ rfl (by kernel_rfl) ?_
        simp only [skipAct, skipListed, Act.put, List.setIfInBounds_toArray, List.set_cons_zero, List.set_cons_succ]
        refine wpAnyH_takeD (i := 9) (d := 39) (v := ?vh9) rfl rfl (by kernel_rfl) (by kernel_rfl) (by kernel_rfl) (fun _ _ _ h => h) (Or.inl ⟨by rfl, ?yvh9⟩) (by assumption) ?rvh9
        case yvh9 => (intro w hSw; (try dsimp only at hSw); go_simp <;> with_reducible rfl)
        try simp only [Act.put, List.setIfInBounds_toArray, List.set_cons_zero, List.set_cons_succ]
        refine wpAnyH_takeD (i := 10) (d := 40) (v := ?vh10) rfl rfl (by kernel_rfl) (by kernel_rfl) (by kernel_rfl) (fun _ _ _ h => h) (Or.inl ⟨by rfl, ?yvh10⟩) (by assumption) ?rvh10
        case yvh10 => (intro w hSw; (try dsimp only at hSw); go_simp <;> with_reducible rfl)
        try simp only [Act.put, List.setIfInBounds_toArray, List.set_cons_zero, List.set_cons_succ]
        refine wpAnyH_skips (by kernel_rfl) (fun _ _ _ _ h => h) (by assumption) [(11, 41), (12, 42), (13, 43), (14, 44)] 14 _ _ _ rfl (by kernel_rfl) ?_
        simp only [skipAct, skipListed, Act.put, List.setIfInBounds_toArray, List.set_cons_zero, List.set_cons_succ]
        refine wpAnyH_takeD (i := 15) (d := 45) (v := ?vh15) rfl rfl (by kernel_rfl) (by kernel_rfl) (by kernel_rfl) (fun _ _ _ h => h) (Or.inl ⟨by rfl, ?yvh15⟩) (by assumption) ?rvh15
        case yvh15 => (intro w hSw; (try dsimp only at hSw); go_simp <;> with_reducible rfl)
        try simp only [Act.put, List.setIfInBounds_toArray, List.set_cons_zero, List.set_cons_succ]
        refine wpAnyH_takeD (i := 16) (d := 46) (v := ?vh16) rfl rfl (by kernel_rfl) (by kernel_rfl) (by kernel_rfl) (fun _ _ _ h => h) (Or.inl ⟨by rfl, ?yvh16⟩) (by assumption) ?rvh16
        case yvh16 => (intro w hSw; (try dsimp only at hSw); go_simp <;> with_reducible rfl)
        try simp only [Act.put, List.setIfInBounds_toArray, List.set_cons_zero, List.set_cons_succ]
        refine wpAnyH_skips (by kernel_rfl) (fun _ _ _ _ h => h) (by assumption) [(17, 47), (18, 48), (19, 49)] 9 _ _ _ rfl (by kernel_rfl) ?_
        simp only [skipAct, skipListed, Act.put, List.setIfInBounds_toArray, List.set_cons_zero, List.set_cons_succ]
        refine wpAnyH_takeD (i := 20) (d := 50) (v := ?vh20) rfl rfl (by kernel_rfl) (by kernel_rfl) (by kernel_rfl) (fun _ _ _ h => h) (Or.inl ⟨by rfl, ?yvh20⟩) (by assumption) ?rvh20
        case yvh20 => (intro w hSw; (try dsimp only at hSw); go_simp <;> with_reducible rfl)
        try simp only [Act.put, List.setIfInBounds_toArray, List.set_cons_zero, List.set_cons_succ]
        refine wpAnyH_takeD (i := 21) (d := 51) (v := ?vh21) rfl rfl (by kernel_rfl) (by kernel_rfl) (by kernel_rfl) (fun _ _ _ h => h) (Or.inl ⟨by rfl, ?yvh21⟩) (by assumption) ?rvh21
        case yvh21 => (intro w hSw; (try dsimp only at hSw); go_simp <;> with_reducible rfl)
        try simp only [Act.put, List.setIfInBounds_toArray, List.set_cons_zero, List.set_cons_succ]
        refine wpAnyH_skips (by kernel_rfl) (fun _ _ _ _ h => h) (by assumption) [(22, 52), (23, 53), (24, 54), (25, 55), (26, 56), (27, 57)] 1 _ _ _ rfl (by kernel_rfl) ?_
        simp only [skipAct, skipListed, Act.put, List.setIfInBounds_toArray, List.set_cons_zero, List.set_cons_succ]
        refine wpAnyH_takeD (i := 28) (d := 58) (v := ?vh28) rfl rfl (by kernel_rfl) (by kernel_rfl) (by kernel_rfl) (fun _ _ _ h => h) (Or.inl ⟨by rfl, ?yvh28⟩) (by assumption) ?rvh28
        case yvh28 => (intro w hSw; (try dsimp only at hSw); go_simp <;> with_reducible rfl)
        try simp only [Act.put, List.setIfInBounds_toArray, List.set_cons_zero, List.set_cons_succ]
        refine wpAnyH_done (by kernel_rfl) ?_ _
        go_wp2_with fail
        go_meet
        exact ⟨by rw [HBV.out]; rfl, Lib.hid (BxS.bel hkeep)⟩
      rw [decide_eq_true a1, Bool.true_and] at hv
      subst a1
      cases kb with
      | false =>
        have HBV := Lib.hid (show B3 = false from by rw [← hv]; rfl)
        clear hv

        go_upto_region 3 with fail
        refine wp_region_held_drew (S := (fun W' => BxS W0 W' w.heap.size c (.slice ao m cp))) (by kernel_rfl) HSD3.out (fun hHeld => ?_)
        refine wpAnyH_takeD (i := 0) (d := 30) (v := ?vi0) rfl rfl (by kernel_rfl) (by kernel_rfl) (by kernel_rfl) (fun _ _ _ h => h) (Or.inl ⟨by rfl, ?yvi0⟩) (by assumption) ?rvi0
        case yvi0 => (intro w hSw; (try dsimp only at hSw); go_simp <;> with_reducible rfl)
        try simp only [Act.put, List.setIfInBounds_toArray, List.set_cons_zero, List.set_cons_succ]
        refine wpAnyH_takeD (i := 1) (d := 31) (v := ?vi1) rfl rfl (by kernel_rfl) (by kernel_rfl) (by kernel_rfl) (fun _ _ _ h => h) (Or.inl ⟨by rfl, ?yvi1⟩) (by assumption) ?rvi1
        case yvi1 => (intro w hSw; (try dsimp only at hSw); go_simp <;> with_reducible rfl)
        try simp only [Act.put, List.setIfInBounds_toArray, List.set_cons_zero, List.set_cons_succ]
        refine wpAnyH_ready (rs := [2]) (by kernel_rfl) (by simp) ?_
        refine AllReadyH.cons rfl (fun K hK => ?_) AllReadyH.nil
        go_simp
        go_wp2_with (go_at_call 33; (refine (HCK.out _ (by assumption)).mono ?_); rintro e wx ⟨rfl, hkeep⟩)
        refine hK.out _ _ hkeep (fun hHeld => ?_)
        clear hK K
        try simp only [Act.put, List.setIfInBounds_toArray, List.set_cons_zero, List.set_cons_succ]
        refine wpAnyH_takeD (i := 3) (d := 33) (v := ?vi3) rfl rfl (by kernel_rfl) (by kernel_rfl) (by kernel_rfl) (fun _ _ _ h => h) (Or.inl ⟨by rfl, ?yvi3⟩) (by assumption) ?rvi3
        case yvi3 => (intro w hSw; (try dsimp only at hSw); go_simp <;> with_reducible rfl)
        try simp only [Act.put, List.setIfInBounds_toArray, List.set_cons_zero, List.set_cons_succ]
        refine wpAnyH_takeD (i := 4) (d := 34) (v := ?vi4) rfl rfl (by kernel_rfl) (by kernel_rfl) (by kernel_rfl) (fun _ _ _ h => h) (Or.inl ⟨by rfl, ?yvi4⟩) (by assumption) ?rvi4
        case yvi4 => (intro w hSw; (try dsimp only at hSw); go_simp <;> with_reducible rfl)
        try simp only [Act.put, List.setIfInBounds_toArray, List.set_cons_zero, List.set_cons_succ]
        refine wpAnyH_takeD (i := 5) (d := 35) (v := ?vi5) rfl rfl (by kernel_rfl) (by kernel_rfl) (by kernel_rfl) (fun _ _ _ h => h) (Or.inl ⟨by rfl, ?yvi5⟩) (by assumption) ?rvi5
        case yvi5 => (intro w hSw; (try dsimp only at hSw); go_simp <;> with_reducible rfl)
        try simp only [Act.put, List.setIfInBounds_toArray, List.set_cons_zero, List.set_cons_succ]
        refine wpAnyH_takeD (i := 6) (d := 36) (v := ?vi6) rfl rfl (by kernel_rfl) (by kernel_rfl) (by kernel_rfl) (fun _ _ _ h => h) (Or.inl ⟨by rfl, ?yvi6⟩) (by assumption) ?rvi6
        case yvi6 => (intro w hSw; (try dsimp only at hSw); go_simp <;> with_reducible rfl)
        try simp only [Act.put, List.setIfInBounds_toArray, List.set_cons_zero, List.set_cons_succ]
        refine wpAnyH_ready (rs := [7]) (by kernel_rfl) (by simp) ?_
        refine AllReadyH.cons rfl (fun K hK => ?_) AllReadyH.nil
        go_simp
        go_wp2_with (go_at_call 34; (refine (HIK.out _ (by assumption)).mono ?_); rintro e wx ⟨rfl, hkeep⟩)
        refine hK.out _ _ hkeep (fun hHeld => ?_)
        clear hK K
        try simp only [Act.put, List.setIfInBounds_toArray, List.set_cons_zero, List.set_cons_succ]
        refine wpAnyH_takeD (i := 8) (d := 38) (v := ?vi8) rfl rfl (by kernel_rfl) (by kernel_rfl) (by kernel_rfl) (fun _ _ _ h => h) (Or.inl ⟨by rfl, ?yvi8⟩) (by assumption) ?rvi8
        case yvi8 => (intro w hSw; (try dsimp only at hSw); go_simp <;> with_reducible rfl)
        try simp only [Act.put, List.setIfInBounds_toArray, List.set_cons_zero, List.set_cons_succ]
        refine wpAnyH_takeD (i := 9) (d := 39) (v := ?vi9) rfl rfl (by kernel_rfl) (by kernel_rfl) (by kernel_rfl) (fun _ _ _ h => h) (Or.inl ⟨by rfl, ?yvi9⟩) (by assumption) ?rvi9
        case yvi9 => (intro w hSw; (try dsimp only at hSw); go_simp <;> with_reducible rfl)
        try simp only [Act.put, List.setIfInBounds_toArray, List.set_cons_zero, List.set_cons_succ]
        refine wpAnyH_takeD (i := 10) (d := 40) (v := ?vi10) rfl rfl (by kernel_rfl) (by kernel_rfl) (by kernel_rfl) (fun _ _ _ h => h) (Or.inl ⟨by rfl, ?yvi10⟩) (by assumption) ?rvi10
        case yvi10 => (intro w hSw; (try dsimp only at hSw); go_simp <;> with_reducible rfl)
        try simp only [Act.put, List.setIfInBounds_toArray, List.set_cons_zero, List.set_cons_succ]
        refine wpAnyH_skips (by kernel_rfl) (fun _ _ _ _ h => h) (by assumption) [(11, 41), (12, 42), (13, 43), (14, 44)] 14 _ _ _ rfl (by kernel_rfl) ?_
        simp only [skipAct, skipListed, Act.put, List.setIfInBounds_toArray, List.set_cons_zero, List.set_cons_succ]
        refine wpAnyH_takeD (i := 15) (d := 45) (v := ?vi15) rfl rfl (by kernel_rfl) (by kernel_rfl) (by kernel_rfl) (fun _ _ _ h => h) (Or.inl ⟨by rfl, ?yvi15⟩) (by assumption) ?rvi15
        case yvi15 => (intro w hSw; (try dsimp only at hSw); go_simp <;> with_reducible rfl)
        try simp only [Act.put, List.setIfInBounds_toArray, List.set_cons_zero, List.set_cons_succ]
        refine wpAnyH_takeD (i := 16) (d := 46) (v := ?vi16) rfl rfl (by kernel_rfl) (by kernel_rfl) (by kernel_rfl) (fun _ _ _ h => h) (Or.inl ⟨by rfl, ?yvi16⟩) (by assumption) ?rvi16
        case yvi16 => (intro w hSw; (try dsimp only at hSw); go_simp <;> with_reducible rfl)
        try simp only [Act.put, List.setIfInBounds_toArray, List.set_cons_zero, List.set_cons_succ]
        refine wpAnyH_skips (by kernel_rfl) (fun _ _ _ _ h => h) (by assumption) [(17, 47), (18, 48), (19, 49)] 9 _ _ _ rfl (by kernel_rfl) ?_
        simp only [skipAct, skipListed, Act.put, List.setIfInBounds_toArray, List.set_cons_zero, List.set_cons_succ]
        refine wpAnyH_takeD (i := 20) (d := 50) (v := ?vi20) rfl rfl (by kernel_rfl) (by kernel_rfl) (by kernel_rfl) (fun _ _ _ h => h) (Or.inl ⟨by rfl, ?yvi20⟩) (by assumption) ?rvi20
        case yvi20 => (intro w hSw; (try dsimp only at hSw); go_simp <;> with_reducible rfl)
        try simp only [Act.put, List.setIfInBounds_toArray, List.set_cons_zero, List.set_cons_succ]
        refine wpAnyH_takeD (i := 21) (d := 51) (v := ?vi21) rfl rfl (by kernel_rfl) (by kernel_rfl) (by kernel_rfl) (fun _ _ _ h => h) (Or.inl ⟨by rfl, ?yvi21⟩) (by assumption) ?rvi21
        case yvi21 => (intro w hSw; (try dsimp only at hSw); go_simp <;> with_reducible rfl)
        try simp only [Act.put, List.setIfInBounds_toArray, List.set_cons_zero, List.set_cons_succ]
        refine wpAnyH_skips (by kernel_rfl) (fun _ _ _ _ h => h) (by assumption) [(22, 52), (23, 53), (24, 54), (25, 55), (26, 56), (27, 57)] 1 _ _ _ rfl (by kernel_rfl) ?_
        simp only [skipAct, skipListed, Act.put, List.setIfInBounds_toArray, List.set_cons_zero, List.set_cons_succ]
        refine wpAnyH_takeD (i := 28) (d := 58) (v := ?vi28) rfl rfl (by kernel_rfl) (by kernel_rfl) (by kernel_rfl) (fun _ _ _ h => h) (Or.inl ⟨by rfl, ?yvi28⟩) (by assumption) ?rvi28
        case yvi28 => (intro w hSw; (try dsimp only at hSw); go_simp <;> with_reducible rfl)
        try simp only [Act.put, List.setIfInBounds_toArray, List.set_cons_zero, List.set_cons_succ]
        refine wpAnyH_done (by kernel_rfl) ?_ _
        go_wp2_with fail
        go_meet
        exact ⟨by rw [HBV.out]; rfl, Lib.hid (BxS.bel hkeep)⟩
      | true =>
        rw [Bool.true_and] at hv
        by_cases a2 : c.own.length = 32
        rotate_left
        · have HBV := Lib.hid (show B3 = false from by rw [← hv, decide_eq_false a2]; rfl)
          have f2 : ((c.own.length : Int) != 32) = true := by rw [bne_iff_ne]; omega
          clear hv a2

          go_upto_region 3 with fail
          refine wp_region_held_drew (S := (fun W' => BxS W0 W' w.heap.size c (.slice ao m cp))) (by kernel_rfl) HSD3.out (fun hHeld => ?_)
          refine wpAnyH_takeD (i := 0) (d := 30) (v := ?vj0) rfl rfl (by kernel_rfl) (by kernel_rfl) (by kernel_rfl) (fun _ _ _ h => h) (Or.inl ⟨by rfl, ?yvj0⟩) (by assumption) ?rvj0
          case yvj0 => (intro w hSw; (try dsimp only at hSw); go_simp <;> with_reducible rfl)
          try simp only [Act.put, List.setIfInBounds_toArray, List.set_cons_zero, List.set_cons_succ]
          refine wpAnyH_takeD (i := 1) (d := 31) (v := ?vj1) rfl rfl (by kernel_rfl) (by kernel_rfl) (by kernel_rfl) (fun _ _ _ h => h) (Or.inl ⟨by rfl, ?yvj1⟩) (by assumption) ?rvj1
          case yvj1 => (intro w hSw; (try dsimp only at hSw); go_simp <;> with_reducible rfl)
          try simp only [Act.put, List.setIfInBounds_toArray, List.set_cons_zero, List.set_cons_succ]
          refine wpAnyH_ready (rs := [2]) (by kernel_rfl) (by simp) ?_
          refine AllReadyH.cons rfl (fun K hK => ?_) AllReadyH.nil
          go_simp
          go_wp2_with (go_at_call 33; (refine (HCK.out _ (by assumption)).mono ?_); rintro e wx ⟨rfl, hkeep⟩)
          refine hK.out _ _ hkeep (fun hHeld => ?_)
          clear hK K
          try simp only [Act.put, List.setIfInBounds_toArray, List.set_cons_zero, List.set_cons_succ]
          refine wpAnyH_takeD (i := 3) (d := 33) (v := ?vj3) rfl rfl (by kernel_rfl) (by kernel_rfl) (by kernel_rfl) (fun _ _ _ h => h) (Or.inl ⟨by rfl, ?yvj3⟩) (by assumption) ?rvj3
          case yvj3 => (intro w hSw; (try dsimp only at hSw); go_simp <;> with_reducible rfl)
          try simp only [Act.put, List.setIfInBounds_toArray, List.set_cons_zero, List.set_cons_succ]
          refine wpAnyH_takeD (i := 4) (d := 34) (v := ?vj4) rfl rfl (by kernel_rfl) (by kernel_rfl) (by kernel_rfl) (fun _ _ _ h => h) (Or.inl ⟨by rfl, ?yvj4⟩) (by assumption) ?rvj4
          case yvj4 => (intro w hSw; (try dsimp only at hSw); go_simp <;> with_reducible rfl)
          try simp only [Act.put, List.setIfInBounds_toArray, List.set_cons_zero, List.set_cons_succ]
          refine wpAnyH_takeD (i := 5) (d := 35) (v := ?vj5) rfl rfl (by kernel_rfl) (by kernel_rfl) (by kernel_rfl) (fun _ _ _ h => h) (Or.inl ⟨by rfl, ?yvj5⟩) (by assumption) ?rvj5
          case yvj5 => (intro w hSw; (try dsimp only at hSw); go_simp <;> with_reducible rfl)
          try simp only [Act.put, List.setIfInBounds_toArray, List.set_cons_zero, List.set_cons_succ]
          refine wpAnyH_takeD (i := 6) (d := 36) (v := ?vj6) rfl rfl (by kernel_rfl) (by kernel_rfl) (by kernel_rfl) (fun _ _ _ h => h) (Or.inl ⟨by rfl, ?yvj6⟩) (by assumption) ?rvj6
          case yvj6 => (intro w hSw; (try dsimp only at hSw); go_simp <;> with_reducible rfl)
          try simp only [Act.put, List.setIfInBounds_toArray, List.set_cons_zero, List.set_cons_succ]
          refine wpAnyH_ready (rs := [7]) (by kernel_rfl) (by simp) ?_
          refine AllReadyH.cons rfl (fun K hK => ?_) AllReadyH.nil
          go_simp
          go_wp2_with (go_at_call 34; (refine (HIK.out _ (by assumption)).mono ?_); rintro e wx ⟨rfl, hkeep⟩)
          refine hK.out _ _ hkeep (fun hHeld => ?_)
          clear hK K
          try simp only [Act.put, List.setIfInBounds_toArray, List.set_cons_zero, List.set_cons_succ]
          refine wpAnyH_takeD (i := 8) (d := 38) (v := ?vj8) rfl rfl (by kernel_rfl) (by kernel_rfl) (by kernel_rfl) (fun _ _ _ h => h) (Or.inl ⟨by rfl, ?yvj8⟩) (by assumption) ?rvj8
          case yvj8 => (intro w hSw; (try dsimp only at hSw); go_simp <;> with_reducible rfl)
          try simp only [Act.put, List.setIfInBounds_toArray, List.set_cons_zero, List.set_cons_succ]
          refine wpAnyH_takeD (i := 9) (d := 39) (v := ?vj9) rfl rfl (by kernel_rfl) (by kernel_rfl) (by kernel_rfl) (fun _ _ _ h => h) (Or.inl ⟨by rfl, ?yvj9⟩) (by assumption) ?rvj9
          case yvj9 => (intro w hSw; (try dsimp only at hSw); go_simp <;> with_reducible rfl)
          try simp only [Act.put, List.setIfInBounds_toArray, List.set_cons_zero, List.set_cons_succ]
          refine wpAnyH_takeD (i := 10) (d := 40) (v := ?vj10) rfl rfl (by kernel_rfl) (by kernel_rfl) (by kernel_rfl) (fun _ _ _ h => h) (Or.inl ⟨by rfl, ?yvj10⟩) (by assumption) ?rvj10
          case yvj10 => (intro w hSw; (try dsimp only at hSw); go_simp <;> with_reducible rfl)
          try simp only [Act.put, List.setIfInBounds_toArray, List.set_cons_zero, List.set_cons_succ]
          refine wpAnyH_takeD (i := 11) (d := 41) (v := ?vj11) rfl rfl (by kernel_rfl) (by kernel_rfl) (by kernel_rfl) (fun _ _ _ h => h) (Or.inl ⟨by rfl, ?yvj11⟩) (by assumption) ?rvj11
          case yvj11 => (intro w hSw; (try dsimp only at hSw); go_simp <;> with_reducible rfl)
          try simp only [Act.put, List.setIfInBounds_toArray, List.set_cons_zero, List.set_cons_succ]
          refine wpAnyH_takeD (i := 12) (d := 42) (v := ?vj12) rfl rfl (by kernel_rfl) (by kernel_rfl) (by kernel_rfl) (fun _ _ _ h => h) (Or.inl ⟨by rfl, ?yvj12⟩) (by assumption) ?rvj12
          case yvj12 => (intro w hSw; (try dsimp only at hSw); go_simp <;> with_reducible rfl)
          try simp only [Act.put, List.setIfInBounds_toArray, List.set_cons_zero, List.set_cons_succ]
          refine wpAnyH_takeD (i := 13) (d := 43) (v := ?vj13) rfl rfl (by kernel_rfl) (by kernel_rfl) (by kernel_rfl) (fun _ _ _ h => h) (Or.inl ⟨by rfl, ?yvj13⟩) (by assumption) ?rvj13
          case yvj13 => (intro w hSw; (try dsimp only at hSw); go_simp <;> with_reducible rfl)
          try simp only [Act.put, List.setIfInBounds_toArray, List.set_cons_zero, List.set_cons_succ]
          refine wpAnyH_takeD (i := 14) (d := 44) (v := ?vj14) rfl rfl (by kernel_rfl) (by kernel_rfl) (by kernel_rfl) (fun _ _ _ h => h) (Or.inl ⟨by rfl, ?yvj14⟩) (by assumption) ?rvj14
          case yvj14 => (intro w hSw; (try dsimp only at hSw); go_simp <;> with_reducible rfl)
          try simp only [Act.put, List.setIfInBounds_toArray, List.set_cons_zero, List.set_cons_succ]
          refine wpAnyH_takeD (i := 15) (d := 45) (v := ?vj15) rfl rfl (by kernel_rfl) (by kernel_rfl) (by kernel_rfl) (fun _ _ _ h => h) (Or.inl ⟨by rfl, ?yvj15⟩) (by assumption) ?rvj15
          case yvj15 => (intro w hSw; (try dsimp only at hSw); go_simp <;> with_reducible rfl)
          try simp only [Act.put, List.setIfInBounds_toArray, List.set_cons_zero, List.set_cons_succ]
          refine wpAnyH_takeD (i := 16) (d := 46) (v := ?vj16) rfl rfl (by kernel_rfl) (by kernel_rfl) (by kernel_rfl) (fun _ _ _ h => h) (Or.inl ⟨by rfl, ?yvj16⟩) (by assumption) ?rvj16
          case yvj16 => (intro w hSw; (try dsimp only at hSw); go_simp <;> with_reducible rfl)
          try simp only [Act.put, List.setIfInBounds_toArray, List.set_cons_zero, List.set_cons_succ]
          refine wpAnyH_skips (by kernel_rfl) (fun _ _ _ _ h => h) (by assumption) [(17, 47), (18, 48), (19, 49)] 9 _ _ _ rfl (by kernel_rfl) ?_
          simp only [skipAct, skipListed, Act.put, List.setIfInBounds_toArray, List.set_cons_zero, List.set_cons_succ]
          refine wpAnyH_takeD (i := 20) (d := 50) (v := ?vj20) rfl rfl (by kernel_rfl) (by kernel_rfl) (by kernel_rfl) (fun _ _ _ h => h) (Or.inl ⟨by rfl, ?yvj20⟩) (by assumption) ?rvj20
          case yvj20 => (intro w hSw; (try dsimp only at hSw); go_simp <;> with_reducible rfl)
          try simp only [Act.put, List.setIfInBounds_toArray, List.set_cons_zero, List.set_cons_succ]
          refine wpAnyH_takeD (i := 21) (d := 51) (v := ?vj21) rfl rfl (by kernel_rfl) (by kernel_rfl) (by kernel_rfl) (fun _ _ _ h => h) (Or.inl ⟨by rfl, ?yvj21⟩) (by assumption) ?rvj21
          case yvj21 => (intro w hSw; (try dsimp only at hSw); go_simp <;> with_reducible rfl)
          try simp only [Act.put, List.setIfInBounds_toArray, List.set_cons_zero, List.set_cons_succ]
          refine wpAnyH_skips (by kernel_rfl) (fun _ _ _ _ h => h) (by assumption) [(22, 52), (23, 53), (24, 54), (25, 55), (26, 56), (27, 57)] 1 _ _ _ rfl (by kernel_rfl) ?_
          simp only [skipAct, skipListed, Act.put, List.setIfInBounds_toArray, List.set_cons_zero, List.set_cons_succ]
          refine wpAnyH_takeD (i := 28) (d := 58) (v := ?vj28) rfl rfl (by kernel_rfl) (by kernel_rfl) (by kernel_rfl) (fun _ _ _ h => h) (Or.inl ⟨by rfl, ?yvj28⟩) (by assumption) ?rvj28
          case yvj28 => (intro w hSw; (try dsimp only at hSw); go_simp <;> with_reducible rfl)
          try simp only [Act.put, List.setIfInBounds_toArray, List.set_cons_zero, List.set_cons_succ]
          refine wpAnyH_done (by kernel_rfl) ?_ _
          go_wp2_with fail
          go_meet
          exact ⟨by rw [HBV.out]; rfl, Lib.hid (BxS.bel hkeep)⟩
        have f2 : ((c.own.length : Int) != 32) = false := by rw [bne_eq_false_iff_eq]; omega
        rw [decide_eq_true a2, Bool.true_and] at hv
        clear a2
        by_cases a3 : c.step < 0
        · have HBV := Lib.hid (show B3 = false from by rw [← hv, decide_eq_false (by omega)])
          clear hv

          go_upto_region 3 with fail
          refine wp_region_held_drew (S := (fun W' => BxS W0 W' w.heap.size c (.slice ao m cp))) (by kernel_rfl) HSD3.out (fun hHeld => ?_)
          refine wpAnyH_takeD (i := 0) (d := 30) (v := ?vk0) rfl rfl (by kernel_rfl) (by kernel_rfl) (by kernel_rfl) (fun _ _ _ h => h) (Or.inl ⟨by rfl, ?yvk0⟩) (by assumption) ?rvk0
          case yvk0 => (intro w hSw; (try dsimp only at hSw); go_simp <;> with_reducible rfl)
          try simp only [Act.put, List.setIfInBounds_toArray, List.set_cons_zero, List.set_cons_succ]
          refine wpAnyH_takeD (i := 1) (d := 31) (v := ?vk1) rfl rfl (by kernel_rfl) (by kernel_rfl) (by kernel_rfl) (fun _ _ _ h => h) (Or.inl ⟨by rfl, ?yvk1⟩) (by assumption) ?rvk1
          case yvk1 => (intro w hSw; (try dsimp only at hSw); go_simp <;> with_reducible rfl)
          try simp only [Act.put, List.setIfInBounds_toArray, List.set_cons_zero, List.set_cons_succ]
          refine wpAnyH_ready (rs := [2]) (by kernel_rfl) (by simp) ?_
          refine AllReadyH.cons rfl (fun K hK => ?_) AllReadyH.nil
          go_simp
          go_wp2_with (go_at_call 33; (refine (HCK.out _ (by assumption)).mono ?_); rintro e wx ⟨rfl, hkeep⟩)
          refine hK.out _ _ hkeep (fun hHeld => ?_)
          clear hK K
          try simp only [Act.put, List.setIfInBounds_toArray, List.set_cons_zero, List.set_cons_succ]
          refine wpAnyH_takeD (i := 3) (d := 33) (v := ?vk3) rfl rfl (by kernel_rfl) (by kernel_rfl) (by kernel_rfl) (fun _ _ _ h => h) (Or.inl ⟨by rfl, ?yvk3⟩) (by assumption) ?rvk3
          case yvk3 => (intro w hSw; (try dsimp only at hSw); go_simp <;> with_reducible rfl)
          try simp only [Act.put, List.setIfInBounds_toArray, List.set_cons_zero, List.set_cons_succ]
          refine wpAnyH_takeD (i := 4) (d := 34) (v := ?vk4) rfl rfl (by kernel_rfl) (by kernel_rfl) (by kernel_rfl) (fun _ _ _ h => h) (Or.inl ⟨by rfl, ?yvk4⟩) (by assumption) ?rvk4
          case yvk4 => (intro w hSw; (try dsimp only at hSw); go_simp <;> with_reducible rfl)
          try simp only [Act.put, List.setIfInBounds_toArray, List.set_cons_zero, List.set_cons_succ]
          refine wpAnyH_takeD (i := 5) (d := 35) (v := ?vk5) rfl rfl (by kernel_rfl) (by kernel_rfl) (by kernel_rfl) (fun _ _ _ h => h) (Or.inl ⟨by rfl, ?yvk5⟩) (by assumption) ?rvk5
          case yvk5 => (intro w hSw; (try dsimp only at hSw); go_simp <;> with_reducible rfl)
          try simp only [Act.put, List.setIfInBounds_toArray, List.set_cons_zero, List.set_cons_succ]
          refine wpAnyH_takeD (i := 6) (d := 36) (v := ?vk6) rfl rfl (by kernel_rfl) (by kernel_rfl) (by kernel_rfl) (fun _ _ _ h => h) (Or.inl ⟨by rfl, ?yvk6⟩) (by assumption) ?rvk6
          case yvk6 => (intro w hSw; (try dsimp only at hSw); go_simp <;> with_reducible rfl)
          try simp only [Act.put, List.setIfInBounds_toArray, List.set_cons_zero, List.set_cons_succ]
          refine wpAnyH_ready (rs := [7]) (by kernel_rfl) (by simp) ?_
          refine AllReadyH.cons rfl (fun K hK => ?_) AllReadyH.nil
          go_simp
          go_wp2_with (go_at_call 34; (refine (HIK.out _ (by assumption)).mono ?_); rintro e wx ⟨rfl, hkeep⟩)
          refine hK.out _ _ hkeep (fun hHeld => ?_)
          clear hK K
          try simp only [Act.put, List.setIfInBounds_toArray, List.set_cons_zero, List.set_cons_succ]
          refine wpAnyH_takeD (i := 8) (d := 38) (v := ?vk8) rfl rfl (by kernel_rfl) (by kernel_rfl) (by kernel_rfl) (fun _ _ _ h => h) (Or.inl ⟨by rfl, ?yvk8⟩) (by assumption) ?rvk8
          case yvk8 => (intro w hSw; (try dsimp only at hSw); go_simp <;> with_reducible rfl)
          try simp only [Act.put, List.setIfInBounds_toArray, List.set_cons_zero, List.set_cons_succ]
          refine wpAnyH_takeD (i := 9) (d := 39) (v := ?vk9) rfl rfl (by kernel_rfl) (by kernel_rfl) (by kernel_rfl) (fun _ _ _ h => h) (Or.inl ⟨by rfl, ?yvk9⟩) (by assumption) ?rvk9
          case yvk9 => (intro w hSw; (try dsimp only at hSw); go_simp <;> with_reducible rfl)
          try simp only [Act.put, List.setIfInBounds_toArray, List.set_cons_zero, List.set_cons_succ]
          refine wpAnyH_takeD (i := 10) (d := 40) (v := ?vk10) rfl rfl (by kernel_rfl) (by kernel_rfl) (by kernel_rfl) (fun _ _ _ h => h) (Or.inl ⟨by rfl, ?yvk10⟩) (by assumption) ?rvk10
          case yvk10 => (intro w hSw; (try dsimp only at hSw); go_simp <;> with_reducible rfl)
          try simp only [Act.put, List.setIfInBounds_toArray, List.set_cons_zero, List.set_cons_succ]
          refine wpAnyH_takeD (i := 11) (d := 41) (v := ?vk11) rfl rfl (by kernel_rfl) (by kernel_rfl) (by kernel_rfl) (fun _ _ _ h => h) (Or.inl ⟨by rfl, ?yvk11⟩) (by assumption) ?rvk11
          case yvk11 => (intro w hSw; (try dsimp only at hSw); go_simp <;> with_reducible rfl)
          try simp only [Act.put, List.setIfInBounds_toArray, List.set_cons_zero, List.set_cons_succ]
          refine wpAnyH_takeD (i := 12) (d := 42) (v := ?vk12) rfl rfl (by kernel_rfl) (by kernel_rfl) (by kernel_rfl) (fun _ _ _ h => h) (Or.inl ⟨by rfl, ?yvk12⟩) (by assumption) ?rvk12
          case yvk12 => (intro w hSw; (try dsimp only at hSw); go_simp <;> with_reducible rfl)
          try simp only [Act.put, List.setIfInBounds_toArray, List.set_cons_zero, List.set_cons_succ]
          refine wpAnyH_takeD (i := 13) (d := 43) (v := ?vk13) rfl rfl (by kernel_rfl) (by kernel_rfl) (by kernel_rfl) (fun _ _ _ h => h) (Or.inl ⟨by rfl, ?yvk13⟩) (by assumption) ?rvk13
          case yvk13 => (intro w hSw; (try dsimp only at hSw); go_simp <;> with_reducible rfl)
          try simp only [Act.put, List.setIfInBounds_toArray, List.set_cons_zero, List.set_cons_succ]
          refine wpAnyH_takeD (i := 14) (d := 44) (v := ?vk14) rfl rfl (by kernel_rfl) (by kernel_rfl) (by kernel_rfl) (fun _ _ _ h => h) (Or.inl ⟨by rfl, ?yvk14⟩) (by assumption) ?rvk14
          case yvk14 => (intro w hSw; (try dsimp only at hSw); go_simp <;> with_reducible rfl)
          try simp only [Act.put, List.setIfInBounds_toArray, List.set_cons_zero, List.set_cons_succ]
          refine wpAnyH_takeD (i := 15) (d := 45) (v := ?vk15) rfl rfl (by kernel_rfl) (by kernel_rfl) (by kernel_rfl) (fun _ _ _ h => h) (Or.inl ⟨by rfl, ?yvk15⟩) (by assumption) ?rvk15
          case yvk15 => (intro w hSw; (try dsimp only at hSw); go_simp <;> with_reducible rfl)
          try simp only [Act.put, List.setIfInBounds_toArray, List.set_cons_zero, List.set_cons_succ]
          refine wpAnyH_takeD (i := 16) (d := 46) (v := ?vk16) rfl rfl (by kernel_rfl) (by kernel_rfl) (by kernel_rfl) (fun _ _ _ h => h) (Or.inl ⟨by rfl, ?yvk16⟩) (by assumption) ?rvk16
          case yvk16 => (intro w hSw; (try dsimp only at hSw); go_simp <;> with_reducible rfl)
          try simp only [Act.put, List.setIfInBounds_toArray, List.set_cons_zero, List.set_cons_succ]
          refine wpAnyH_takeD (i := 17) (d := 47) (v := ?vk17) rfl rfl (by kernel_rfl) (by kernel_rfl) (by kernel_rfl) (fun _ _ _ h => h) (Or.inl ⟨by rfl, ?yvk17⟩) (by assumption) ?rvk17
          case yvk17 => (intro w hSw; (try dsimp only at hSw); go_simp <;> with_reducible rfl)
          try simp only [Act.put, List.setIfInBounds_toArray, List.set_cons_zero, List.set_cons_succ]
          refine wpAnyH_takeD (i := 18) (d := 48) (v := ?vk18) rfl rfl (by kernel_rfl) (by kernel_rfl) (by kernel_rfl) (fun _ _ _ h => h) (Or.inl ⟨by rfl, ?yvk18⟩) (by assumption) ?rvk18
          case yvk18 => (intro w hSw; (try dsimp only at hSw); go_simp <;> with_reducible rfl)
          try simp only [Act.put, List.setIfInBounds_toArray, List.set_cons_zero, List.set_cons_succ]
          refine wpAnyH_takeD (i := 19) (d := 49) (v := ?vk19) rfl rfl (by kernel_rfl) (by kernel_rfl) (by kernel_rfl) (fun _ _ _ h => h) (Or.inl ⟨by rfl, ?yvk19⟩) (by assumption) ?rvk19
          case yvk19 => (intro w hSw; (try dsimp only at hSw); go_simp <;> with_reducible rfl)
          try simp only [Act.put, List.setIfInBounds_toArray, List.set_cons_zero, List.set_cons_succ]
          refine wpAnyH_takeD (i := 20) (d := 50) (v := ?vk20) rfl rfl (by kernel_rfl) (by kernel_rfl) (by kernel_rfl) (fun _ _ _ h => h) (Or.inl ⟨by rfl, ?yvk20⟩) (by assumption) ?rvk20
          case yvk20 => (intro w hSw; (try dsimp only at hSw); go_simp <;> with_reducible rfl)
          try simp only [Act.put, List.setIfInBounds_toArray, List.set_cons_zero, List.set_cons_succ]
          refine wpAnyH_takeD (i := 21) (d := 51) (v := ?vk21) rfl rfl (by kernel_rfl) (by kernel_rfl) (by kernel_rfl) (fun _ _ _ h => h) (Or.inl ⟨by rfl, ?yvk21⟩) (by assumption) ?rvk21
          case yvk21 => (intro w hSw; (try dsimp only at hSw); go_simp <;> with_reducible rfl)
          try simp only [Act.put, List.setIfInBounds_toArray, List.set_cons_zero, List.set_cons_succ]
          refine wpAnyH_skips (by kernel_rfl) (fun _ _ _ _ h => h) (by assumption) [(22, 52), (23, 53), (24, 54), (25, 55), (26, 56), (27, 57)] 1 _ _ _ rfl (by kernel_rfl) ?_
          simp only [skipAct, skipListed, Act.put, List.setIfInBounds_toArray, List.set_cons_zero, List.set_cons_succ]
          refine wpAnyH_takeD (i := 28) (d := 58) (v := ?vk28) rfl rfl (by kernel_rfl) (by kernel_rfl) (by kernel_rfl) (fun _ _ _ h => h) (Or.inl ⟨by rfl, ?yvk28⟩) (by assumption) ?rvk28
          case yvk28 => (intro w hSw; (try dsimp only at hSw); go_simp <;> with_reducible rfl)
          try simp only [Act.put, List.setIfInBounds_toArray, List.set_cons_zero, List.set_cons_succ]
          refine wpAnyH_done (by kernel_rfl) ?_ _
          go_wp2_with fail
          go_meet
          exact ⟨by rw [HBV.out]; rfl, Lib.hid (BxS.bel hkeep)⟩
        have f3 : decide (c.step < 0) = false := decide_eq_false a3
        by_cases a4 : ln < c.step
        · have HBV := Lib.hid (show B3 = false from by rw [← hv, decide_eq_false (by omega)])
          clear hv a3

          go_upto_region 3 with fail
          refine wp_region_held_drew (S := (fun W' => BxS W0 W' w.heap.size c (.slice ao m cp))) (by kernel_rfl) HSD3.out (fun hHeld => ?_)
          refine wpAnyH_takeD (i := 0) (d := 30) (v := ?vl0) rfl rfl (by kernel_rfl) (by kernel_rfl) (by kernel_rfl) (fun _ _ _ h => h) (Or.inl ⟨by rfl, ?yvl0⟩) (by assumption) ?rvl0
          case yvl0 => (intro w hSw; (try dsimp only at hSw); go_simp <;> with_reducible rfl)
          try simp only [Act.put, List.setIfInBounds_toArray, List.set_cons_zero, List.set_cons_succ]
          refine wpAnyH_takeD (i := 1) (d := 31) (v := ?vl1) rfl rfl (by kernel_rfl) (by kernel_rfl) (by kernel_rfl) (fun _ _ _ h => h) (Or.inl ⟨by rfl, ?yvl1⟩) (by assumption) ?rvl1
          case yvl1 => (intro w hSw; (try dsimp only at hSw); go_simp <;> with_reducible rfl)
          try simp only [Act.put, List.setIfInBounds_toArray, List.set_cons_zero, List.set_cons_succ]
          refine wpAnyH_ready (rs := [2]) (by kernel_rfl) (by simp) ?_
          refine AllReadyH.cons rfl (fun K hK => ?_) AllReadyH.nil
          go_simp
          go_wp2_with (go_at_call 33; (refine (HCK.out _ (by assumption)).mono ?_); rintro e wx ⟨rfl, hkeep⟩)
          refine hK.out _ _ hkeep (fun hHeld => ?_)
          clear hK K
          try simp only [Act.put, List.setIfInBounds_toArray, List.set_cons_zero, List.set_cons_succ]
          refine wpAnyH_takeD (i := 3) (d := 33) (v := ?vl3) rfl rfl (by kernel_rfl) (by kernel_rfl) (by kernel_rfl) (fun _ _ _ h => h) (Or.inl ⟨by rfl, ?yvl3⟩) (by assumption) ?rvl3
          case yvl3 => (intro w hSw; (try dsimp only at hSw); go_simp <;> with_reducible rfl)
          try simp only [Act.put, List.setIfInBounds_toArray, List.set_cons_zero, List.set_cons_succ]
          refine wpAnyH_takeD (i := 4) (d := 34) (v := ?vl4) rfl rfl (by kernel_rfl) (by kernel_rfl) (by kernel_rfl) (fun _ _ _ h => h) (Or.inl ⟨by rfl, ?yvl4⟩) (by assumption) ?rvl4
          case yvl4 => (intro w hSw; (try dsimp only at hSw); go_simp <;> with_reducible rfl)
          try simp only [Act.put, List.setIfInBounds_toArray, List.set_cons_zero, List.set_cons_succ]
          refine wpAnyH_takeD (i := 5) (d := 35) (v := ?vl5) rfl rfl (by kernel_rfl) (by kernel_rfl) (by kernel_rfl) (fun _ _ _ h => h) (Or.inl ⟨by rfl, ?yvl5⟩) (by assumption) ?rvl5
          case yvl5 => (intro w hSw; (try dsimp only at hSw); go_simp <;> with_reducible rfl)
          try simp only [Act.put, List.setIfInBounds_toArray, List.set_cons_zero, List.set_cons_succ]
          refine wpAnyH_takeD (i := 6) (d := 36) (v := ?vl6) rfl rfl (by kernel_rfl) (by kernel_rfl) (by kernel_rfl) (fun _ _ _ h => h) (Or.inl ⟨by rfl, ?yvl6⟩) (by assumption) ?rvl6
          case yvl6 => (intro w hSw; (try dsimp only at hSw); go_simp <;> with_reducible rfl)
          try simp only [Act.put, List.setIfInBounds_toArray, List.set_cons_zero, List.set_cons_succ]
          refine wpAnyH_ready (rs := [7]) (by kernel_rfl) (by simp) ?_
          refine AllReadyH.cons rfl (fun K hK => ?_) AllReadyH.nil
          go_simp
          go_wp2_with (go_at_call 34; (refine (HIK.out _ (by assumption)).mono ?_); rintro e wx ⟨rfl, hkeep⟩)
          refine hK.out _ _ hkeep (fun hHeld => ?_)
          clear hK K
          try simp only [Act.put, List.setIfInBounds_toArray, List.set_cons_zero, List.set_cons_succ]
          refine wpAnyH_takeD (i := 8) (d := 38) (v := ?vl8) rfl rfl (by kernel_rfl) (by kernel_rfl) (by kernel_rfl) (fun _ _ _ h => h) (Or.inl ⟨by rfl, ?yvl8⟩) (by assumption) ?rvl8
          case yvl8 => (intro w hSw; (try dsimp only at hSw); go_simp <;> with_reducible rfl)
          try simp only [Act.put, List.setIfInBounds_toArray, List.set_cons_zero, List.set_cons_succ]
          refine wpAnyH_takeD (i := 9) (d := 39) (v := ?vl9) rfl rfl (by kernel_rfl) (by kernel_rfl) (by kernel_rfl) (fun _ _ _ h => h) (Or.inl ⟨by rfl, ?yvl9⟩) (by assumption) ?rvl9
          case yvl9 => (intro w hSw; (try dsimp only at hSw); go_simp <;> with_reducible rfl)
          try simp only [Act.put, List.setIfInBounds_toArray, List.set_cons_zero, List.set_cons_succ]
          refine wpAnyH_takeD (i := 10) (d := 40) (v := ?vl10) rfl rfl (by kernel_rfl) (by kernel_rfl) (by kernel_rfl) (fun _ _ _ h => h) (Or.inl ⟨by rfl, ?yvl10⟩) (by assumption) ?rvl10
          case yvl10 => (intro w hSw; (try dsimp only at hSw); go_simp <;> with_reducible rfl)
          try simp only [Act.put, List.setIfInBounds_toArray, List.set_cons_zero, List.set_cons_succ]
          refine wpAnyH_takeD (i := 11) (d := 41) (v := ?vl11) rfl rfl (by kernel_rfl) (by kernel_rfl) (by kernel_rfl) (fun _ _ _ h => h) (Or.inl ⟨by rfl, ?yvl11⟩) (by assumption) ?rvl11
          case yvl11 => (intro w hSw; (try dsimp only at hSw); go_simp <;> with_reducible rfl)
          try simp only [Act.put, List.setIfInBounds_toArray, List.set_cons_zero, List.set_cons_succ]
          refine wpAnyH_takeD (i := 12) (d := 42) (v := ?vl12) rfl rfl (by kernel_rfl) (by kernel_rfl) (by kernel_rfl) (fun _ _ _ h => h) (Or.inl ⟨by rfl, ?yvl12⟩) (by assumption) ?rvl12
          case yvl12 => (intro w hSw; (try dsimp only at hSw); go_simp <;> with_reducible rfl)
          try simp only [Act.put, List.setIfInBounds_toArray, List.set_cons_zero, List.set_cons_succ]
          refine wpAnyH_takeD (i := 13) (d := 43) (v := ?vl13) rfl rfl (by kernel_rfl) (by kernel_rfl) (by kernel_rfl) (fun _ _ _ h => h) (Or.inl ⟨by rfl, ?yvl13⟩) (by assumption) ?rvl13
          case yvl13 => (intro w hSw; (try dsimp only at hSw); go_simp <;> with_reducible rfl)
          try simp only [Act.put, List.setIfInBounds_toArray, List.set_cons_zero, List.set_cons_succ]
          refine wpAnyH_takeD (i := 14) (d := 44) (v := ?vl14) rfl rfl (by kernel_rfl) (by kernel_rfl) (by kernel_rfl) (fun _ _ _ h => h) (Or.inl ⟨by rfl, ?yvl14⟩) (by assumption) ?rvl14
          case yvl14 => (intro w hSw; (try dsimp only at hSw); go_simp <;> with_reducible rfl)
          try simp only [Act.put, List.setIfInBounds_toArray, List.set_cons_zero, List.set_cons_succ]
          refine wpAnyH_takeD (i := 15) (d := 45) (v := ?vl15) rfl rfl (by kernel_rfl) (by kernel_rfl) (by kernel_rfl) (fun _ _ _ h => h) (Or.inl ⟨by rfl, ?yvl15⟩) (by assumption) ?rvl15
          case yvl15 => (intro w hSw; (try dsimp only at hSw); go_simp <;> with_reducible rfl)
          try simp only [Act.put, List.setIfInBounds_toArray, List.set_cons_zero, List.set_cons_succ]
          refine wpAnyH_takeD (i := 16) (d := 46) (v := ?vl16) rfl rfl (by kernel_rfl) (by kernel_rfl) (by kernel_rfl) (fun _ _ _ h => h) (Or.inl ⟨by rfl, ?yvl16⟩) (by assumption) ?rvl16
          case yvl16 => (intro w hSw; (try dsimp only at hSw); go_simp <;> with_reducible rfl)
          try simp only [Act.put, List.setIfInBounds_toArray, List.set_cons_zero, List.set_cons_succ]
          refine wpAnyH_takeD (i := 17) (d := 47) (v := ?vl17) rfl rfl (by kernel_rfl) (by kernel_rfl) (by kernel_rfl) (fun _ _ _ h => h) (Or.inl ⟨by rfl, ?yvl17⟩) (by assumption) ?rvl17
          case yvl17 => (intro w hSw; (try dsimp only at hSw); go_simp <;> with_reducible rfl)
          try simp only [Act.put, List.setIfInBounds_toArray, List.set_cons_zero, List.set_cons_succ]
          refine wpAnyH_takeD (i := 18) (d := 48) (v := ?vl18) rfl rfl (by kernel_rfl) (by kernel_rfl) (by kernel_rfl) (fun _ _ _ h => h) (Or.inl ⟨by rfl, ?yvl18⟩) (by assumption) ?rvl18
          case yvl18 => (intro w hSw; (try dsimp only at hSw); go_simp <;> with_reducible rfl)
          try simp only [Act.put, List.setIfInBounds_toArray, List.set_cons_zero, List.set_cons_succ]
          refine wpAnyH_takeD (i := 19) (d := 49) (v := ?vl19) rfl rfl (by kernel_rfl) (by kernel_rfl) (by kernel_rfl) (fun _ _ _ h => h) (Or.inl ⟨by rfl, ?yvl19⟩) (by assumption) ?rvl19
          case yvl19 => (intro w hSw; (try dsimp only at hSw); go_simp <;> with_reducible rfl)
          try simp only [Act.put, List.setIfInBounds_toArray, List.set_cons_zero, List.set_cons_succ]
          refine wpAnyH_takeD (i := 20) (d := 50) (v := ?vl20) rfl rfl (by kernel_rfl) (by kernel_rfl) (by kernel_rfl) (fun _ _ _ h => h) (Or.inl ⟨by rfl, ?yvl20⟩) (by assumption) ?rvl20
          case yvl20 => (intro w hSw; (try dsimp only at hSw); go_simp <;> with_reducible rfl)
          try simp only [Act.put, List.setIfInBounds_toArray, List.set_cons_zero, List.set_cons_succ]
          refine wpAnyH_takeD (i := 21) (d := 51) (v := ?vl21) rfl rfl (by kernel_rfl) (by kernel_rfl) (by kernel_rfl) (fun _ _ _ h => h) (Or.inl ⟨by rfl, ?yvl21⟩) (by assumption) ?rvl21
          case yvl21 => (intro w hSw; (try dsimp only at hSw); go_simp <;> with_reducible rfl)
          try simp only [Act.put, List.setIfInBounds_toArray, List.set_cons_zero, List.set_cons_succ]
          refine wpAnyH_takeD (i := 22) (d := 52) (v := ?vl22) rfl rfl (by kernel_rfl) (by kernel_rfl) (by kernel_rfl) (fun _ _ _ h => h) (Or.inl ⟨by rfl, ?yvl22⟩) (by assumption) ?rvl22
          case yvl22 => (intro w hSw; (try dsimp only at hSw); go_simp <;> with_reducible rfl)
          try simp only [Act.put, List.setIfInBounds_toArray, List.set_cons_zero, List.set_cons_succ]
          refine wpAnyH_takeD (i := 23) (d := 53) (v := ?vl23) rfl rfl (by kernel_rfl) (by kernel_rfl) (by kernel_rfl) (fun _ _ _ h => h) (Or.inl ⟨by rfl, ?yvl23⟩) (by assumption) ?rvl23
          case yvl23 => (intro w hSw; (try dsimp only at hSw); go_simp <;> with_reducible rfl)
          try simp only [Act.put, List.setIfInBounds_toArray, List.set_cons_zero, List.set_cons_succ]
          refine wpAnyH_takeD (i := 24) (d := 54) (v := ?vl24) rfl rfl (by kernel_rfl) (by kernel_rfl) (by kernel_rfl) (fun _ _ _ h => h) (Or.inl ⟨by rfl, ?yvl24⟩) (by assumption) ?rvl24
          case yvl24 => (intro w hSw; (try dsimp only at hSw); go_simp <;> with_reducible rfl)
          try simp only [Act.put, List.setIfInBounds_toArray, List.set_cons_zero, List.set_cons_succ]
          refine wpAnyH_takeD (i := 25) (d := 55) (v := ?vl25) rfl rfl (by kernel_rfl) (by kernel_rfl) (by kernel_rfl) (fun _ _ _ h => h) (Or.inl ⟨by rfl, ?yvl25⟩) (by assumption) ?rvl25
          case yvl25 => (intro w hSw; (try dsimp only at hSw); go_simp <;> with_reducible rfl)
          try simp only [Act.put, List.setIfInBounds_toArray, List.set_cons_zero, List.set_cons_succ]
          refine wpAnyH_ready (rs := [26]) (by kernel_rfl) (by simp) ?_
          refine AllReadyH.cons rfl (fun K hK => ?_) AllReadyH.nil
          go_simp
          go_wp2_with (go_at_call 35; (refine (HLN.out _ (by assumption)).mono ?_); rintro e wx ⟨rfl, hkeep⟩)
          refine hK.out _ _ hkeep (fun hHeld => ?_)
          clear hK K
          try simp only [Act.put, List.setIfInBounds_toArray, List.set_cons_zero, List.set_cons_succ]
          refine wpAnyH_takeD (i := 27) (d := 57) (v := ?vl27) rfl rfl (by kernel_rfl) (by kernel_rfl) (by kernel_rfl) (fun _ _ _ h => h) (Or.inl ⟨by rfl, ?yvl27⟩) (by assumption) ?rvl27
          case yvl27 => (intro w hSw; (try dsimp only at hSw); go_simp <;> with_reducible rfl)
          try simp only [Act.put, List.setIfInBounds_toArray, List.set_cons_zero, List.set_cons_succ]
          refine wpAnyH_takeD (i := 28) (d := 58) (v := ?vl28) rfl rfl (by kernel_rfl) (by kernel_rfl) (by kernel_rfl) (fun _ _ _ h => h) (Or.inl ⟨by rfl, ?yvl28⟩) (by assumption) ?rvl28
          case yvl28 => (intro w hSw; (try dsimp only at hSw); go_simp <;> with_reducible rfl)
          try simp only [Act.put, List.setIfInBounds_toArray, List.set_cons_zero, List.set_cons_succ]
          refine wpAnyH_done (by kernel_rfl) ?_ _
          go_wp2_with fail
          go_meet
          exact ⟨by rw [HBV.out]; rfl, Lib.hid (BxS.bel hkeep)⟩
        · have HBV := Lib.hid (show B3 = true from by rw [← hv, decide_eq_true (by omega)])
          have f4 : decide (ln < c.step) = false := decide_eq_false a4
          clear hv a3 a4

          go_upto_region 3 with fail
          refine wp_region_held_drew (S := (fun W' => BxS W0 W' w.heap.size c (.slice ao m cp))) (by kernel_rfl) HSD3.out (fun hHeld => ?_)
          refine wpAnyH_takeD (i := 0) (d := 30) (v := ?vm0) rfl rfl (by kernel_rfl) (by kernel_rfl) (by kernel_rfl) (fun _ _ _ h => h) (Or.inl ⟨by rfl, ?yvm0⟩) (by assumption) ?rvm0
          case yvm0 => (intro w hSw; (try dsimp only at hSw); go_simp <;> with_reducible rfl)
          try simp only [Act.put, List.setIfInBounds_toArray, List.set_cons_zero, List.set_cons_succ]
          refine wpAnyH_takeD (i := 1) (d := 31) (v := ?vm1) rfl rfl (by kernel_rfl) (by kernel_rfl) (by kernel_rfl) (fun _ _ _ h => h) (Or.inl ⟨by rfl, ?yvm1⟩) (by assumption) ?rvm1
          case yvm1 => (intro w hSw; (try dsimp only at hSw); go_simp <;> with_reducible rfl)
          try simp only [Act.put, List.setIfInBounds_toArray, List.set_cons_zero, List.set_cons_succ]
          refine wpAnyH_ready (rs := [2]) (by kernel_rfl) (by simp) ?_
          refine AllReadyH.cons rfl (fun K hK => ?_) AllReadyH.nil
          go_simp
          go_wp2_with (go_at_call 33; (refine (HCK.out _ (by assumption)).mono ?_); rintro e wx ⟨rfl, hkeep⟩)
          refine hK.out _ _ hkeep (fun hHeld => ?_)
          clear hK K
          try simp only [Act.put, List.setIfInBounds_toArray, List.set_cons_zero, List.set_cons_succ]
          refine wpAnyH_takeD (i := 3) (d := 33) (v := ?vm3) rfl rfl (by kernel_rfl) (by kernel_rfl) (by kernel_rfl) (fun _ _ _ h => h) (Or.inl ⟨by rfl, ?yvm3⟩) (by assumption) ?rvm3
          case yvm3 => (intro w hSw; (try dsimp only at hSw); go_simp <;> with_reducible rfl)
          try simp only [Act.put, List.setIfInBounds_toArray, List.set_cons_zero, List.set_cons_succ]
          refine wpAnyH_takeD (i := 4) (d := 34) (v := ?vm4) rfl rfl (by kernel_rfl) (by kernel_rfl) (by kernel_rfl) (fun _ _ _ h => h) (Or.inl ⟨by rfl, ?yvm4⟩) (by assumption) ?rvm4
          case yvm4 => (intro w hSw; (try dsimp only at hSw); go_simp <;> with_reducible rfl)
          try simp only [Act.put, List.setIfInBounds_toArray, List.set_cons_zero, List.set_cons_succ]
          refine wpAnyH_takeD (i := 5) (d := 35) (v := ?vm5) rfl rfl (by kernel_rfl) (by kernel_rfl) (by kernel_rfl) (fun _ _ _ h => h) (Or.inl ⟨by rfl, ?yvm5⟩) (by assumption) ?rvm5
          case yvm5 => (intro w hSw; (try dsimp only at hSw); go_simp <;> with_reducible rfl)
          try simp only [Act.put, List.setIfInBounds_toArray, List.set_cons_zero, List.set_cons_succ]
          refine wpAnyH_takeD (i := 6) (d := 36) (v := ?vm6) rfl rfl (by kernel_rfl) (by kernel_rfl) (by kernel_rfl) (fun _ _ _ h => h) (Or.inl ⟨by rfl, ?yvm6⟩) (by assumption) ?rvm6
          case yvm6 => (intro w hSw; (try dsimp only at hSw); go_simp <;> with_reducible rfl)
          try simp only [Act.put, List.setIfInBounds_toArray, List.set_cons_zero, List.set_cons_succ]
          refine wpAnyH_ready (rs := [7]) (by kernel_rfl) (by simp) ?_
          refine AllReadyH.cons rfl (fun K hK => ?_) AllReadyH.nil
          go_simp
          go_wp2_with (go_at_call 34; (refine (HIK.out _ (by assumption)).mono ?_); rintro e wx ⟨rfl, hkeep⟩)
          refine hK.out _ _ hkeep (fun hHeld => ?_)
          clear hK K
          try simp only [Act.put, List.setIfInBounds_toArray, List.set_cons_zero, List.set_cons_succ]
          refine wpAnyH_takeD (i := 8) (d := 38) (v := ?vm8) rfl rfl (by kernel_rfl) (by kernel_rfl) (by kernel_rfl) (fun _ _ _ h => h) (Or.inl ⟨by rfl, ?yvm8⟩) (by assumption) ?rvm8
          case yvm8 => (intro w hSw; (try dsimp only at hSw); go_simp <;> with_reducible rfl)
          try simp only [Act.put, List.setIfInBounds_toArray, List.set_cons_zero, List.set_cons_succ]
          refine wpAnyH_takeD (i := 9) (d := 39) (v := ?vm9) rfl rfl (by kernel_rfl) (by kernel_rfl) (by kernel_rfl) (fun _ _ _ h => h) (Or.inl ⟨by rfl, ?yvm9⟩) (by assumption) ?rvm9
          case yvm9 => (intro w hSw; (try dsimp only at hSw); go_simp <;> with_reducible rfl)
          try simp only [Act.put, List.setIfInBounds_toArray, List.set_cons_zero, List.set_cons_succ]
          refine wpAnyH_takeD (i := 10) (d := 40) (v := ?vm10) rfl rfl (by kernel_rfl) (by kernel_rfl) (by kernel_rfl) (fun _ _ _ h => h) (Or.inl ⟨by rfl, ?yvm10⟩) (by assumption) ?rvm10
          case yvm10 => (intro w hSw; (try dsimp only at hSw); go_simp <;> with_reducible rfl)
          try simp only [Act.put, List.setIfInBounds_toArray, List.set_cons_zero, List.set_cons_succ]
          refine wpAnyH_takeD (i := 11) (d := 41) (v := ?vm11) rfl rfl (by kernel_rfl) (by kernel_rfl) (by kernel_rfl) (fun _ _ _ h => h) (Or.inl ⟨by rfl, ?yvm11⟩) (by assumption) ?rvm11
          case yvm11 => (intro w hSw; (try dsimp only at hSw); go_simp <;> with_reducible rfl)
          try simp only [Act.put, List.setIfInBounds_toArray, List.set_cons_zero, List.set_cons_succ]
          refine wpAnyH_takeD (i := 12) (d := 42) (v := ?vm12) rfl rfl (by kernel_rfl) (by kernel_rfl) (by kernel_rfl) (fun _ _ _ h => h) (Or.inl ⟨by rfl, ?yvm12⟩) (by assumption) ?rvm12
          case yvm12 => (intro w hSw; (try dsimp only at hSw); go_simp <;> with_reducible rfl)
          try simp only [Act.put, List.setIfInBounds_toArray, List.set_cons_zero, List.set_cons_succ]
          refine wpAnyH_takeD (i := 13) (d := 43) (v := ?vm13) rfl rfl (by kernel_rfl) (by kernel_rfl) (by kernel_rfl) (fun _ _ _ h => h) (Or.inl ⟨by rfl, ?yvm13⟩) (by assumption) ?rvm13
          case yvm13 => (intro w hSw; (try dsimp only at hSw); go_simp <;> with_reducible rfl)
          try simp only [Act.put, List.setIfInBounds_toArray, List.set_cons_zero, List.set_cons_succ]
          refine wpAnyH_takeD (i := 14) (d := 44) (v := ?vm14) rfl rfl (by kernel_rfl) (by kernel_rfl) (by kernel_rfl) (fun _ _ _ h => h) (Or.inl ⟨by rfl, ?yvm14⟩) (by assumption) ?rvm14
          case yvm14 => (intro w hSw; (try dsimp only at hSw); go_simp <;> with_reducible rfl)
          try simp only [Act.put, List.setIfInBounds_toArray, List.set_cons_zero, List.set_cons_succ]
          refine wpAnyH_takeD (i := 15) (d := 45) (v := ?vm15) rfl rfl (by kernel_rfl) (by kernel_rfl) (by kernel_rfl) (fun _ _ _ h => h) (Or.inl ⟨by rfl, ?yvm15⟩) (by assumption) ?rvm15
          case yvm15 => (intro w hSw; (try dsimp only at hSw); go_simp <;> with_reducible rfl)
          try simp only [Act.put, List.setIfInBounds_toArray, List.set_cons_zero, List.set_cons_succ]
          refine wpAnyH_takeD (i := 16) (d := 46) (v := ?vm16) rfl rfl (by kernel_rfl) (by kernel_rfl) (by kernel_rfl) (fun _ _ _ h => h) (Or.inl ⟨by rfl, ?yvm16⟩) (by assumption) ?rvm16
          case yvm16 => (intro w hSw; (try dsimp only at hSw); go_simp <;> with_reducible rfl)
          try simp only [Act.put, List.setIfInBounds_toArray, List.set_cons_zero, List.set_cons_succ]
          refine wpAnyH_takeD (i := 17) (d := 47) (v := ?vm17) rfl rfl (by kernel_rfl) (by kernel_rfl) (by kernel_rfl) (fun _ _ _ h => h) (Or.inl ⟨by rfl, ?yvm17⟩) (by assumption) ?rvm17
          case yvm17 => (intro w hSw; (try dsimp only at hSw); go_simp <;> with_reducible rfl)
          try simp only [Act.put, List.setIfInBounds_toArray, List.set_cons_zero, List.set_cons_succ]
          refine wpAnyH_takeD (i := 18) (d := 48) (v := ?vm18) rfl rfl (by kernel_rfl) (by kernel_rfl) (by kernel_rfl) (fun _ _ _ h => h) (Or.inl ⟨by rfl, ?yvm18⟩) (by assumption) ?rvm18
          case yvm18 => (intro w hSw; (try dsimp only at hSw); go_simp <;> with_reducible rfl)
          try simp only [Act.put, List.setIfInBounds_toArray, List.set_cons_zero, List.set_cons_succ]
          refine wpAnyH_takeD (i := 19) (d := 49) (v := ?vm19) rfl rfl (by kernel_rfl) (by kernel_rfl) (by kernel_rfl) (fun _ _ _ h => h) (Or.inl ⟨by rfl, ?yvm19⟩) (by assumption) ?rvm19
          case yvm19 => (intro w hSw; (try dsimp only at hSw); go_simp <;> with_reducible rfl)
          try simp only [Act.put, List.setIfInBounds_toArray, List.set_cons_zero, List.set_cons_succ]
          refine wpAnyH_takeD (i := 20) (d := 50) (v := ?vm20) rfl rfl (by kernel_rfl) (by kernel_rfl) (by kernel_rfl) (fun _ _ _ h => h) (Or.inl ⟨by rfl, ?yvm20⟩) (by assumption) ?rvm20
          case yvm20 => (intro w hSw; (try dsimp only at hSw); go_simp <;> with_reducible rfl)
          try simp only [Act.put, List.setIfInBounds_toArray, List.set_cons_zero, List.set_cons_succ]
          refine wpAnyH_takeD (i := 21) (d := 51) (v := ?vm21) rfl rfl (by kernel_rfl) (by kernel_rfl) (by kernel_rfl) (fun _ _ _ h => h) (Or.inl ⟨by rfl, ?yvm21⟩) (by assumption) ?rvm21
          case yvm21 => (intro w hSw; (try dsimp only at hSw); go_simp <;> with_reducible rfl)
          try simp only [Act.put, List.setIfInBounds_toArray, List.set_cons_zero, List.set_cons_succ]
          refine wpAnyH_takeD (i := 22) (d := 52) (v := ?vm22) rfl rfl (by kernel_rfl) (by kernel_rfl) (by kernel_rfl) (fun _ _ _ h => h) (Or.inl ⟨by rfl, ?yvm22⟩) (by assumption) ?rvm22
          case yvm22 => (intro w hSw; (try dsimp only at hSw); go_simp <;> with_reducible rfl)
          try simp only [Act.put, List.setIfInBounds_toArray, List.set_cons_zero, List.set_cons_succ]
          refine wpAnyH_takeD (i := 23) (d := 53) (v := ?vm23) rfl rfl (by kernel_rfl) (by kernel_rfl) (by kernel_rfl) (fun _ _ _ h => h) (Or.inl ⟨by rfl, ?yvm23⟩) (by assumption) ?rvm23
          case yvm23 => (intro w hSw; (try dsimp only at hSw); go_simp <;> with_reducible rfl)
          try simp only [Act.put, List.setIfInBounds_toArray, List.set_cons_zero, List.set_cons_succ]
          refine wpAnyH_takeD (i := 24) (d := 54) (v := ?vm24) rfl rfl (by kernel_rfl) (by kernel_rfl) (by kernel_rfl) (fun _ _ _ h => h) (Or.inl ⟨by rfl, ?yvm24⟩) (by assumption) ?rvm24
          case yvm24 => (intro w hSw; (try dsimp only at hSw); go_simp <;> with_reducible rfl)
          try simp only [Act.put, List.setIfInBounds_toArray, List.set_cons_zero, List.set_cons_succ]
          refine wpAnyH_takeD (i := 25) (d := 55) (v := ?vm25) rfl rfl (by kernel_rfl) (by kernel_rfl) (by kernel_rfl) (fun _ _ _ h => h) (Or.inl ⟨by rfl, ?yvm25⟩) (by assumption) ?rvm25
          case yvm25 => (intro w hSw; (try dsimp only at hSw); go_simp <;> with_reducible rfl)
          try simp only [Act.put, List.setIfInBounds_toArray, List.set_cons_zero, List.set_cons_succ]
          refine wpAnyH_ready (rs := [26]) (by kernel_rfl) (by simp) ?_
          refine AllReadyH.cons rfl (fun K hK => ?_) AllReadyH.nil
          go_simp
          go_wp2_with (go_at_call 35; (refine (HLN.out _ (by assumption)).mono ?_); rintro e wx ⟨rfl, hkeep⟩)
          refine hK.out _ _ hkeep (fun hHeld => ?_)
          clear hK K
          try simp only [Act.put, List.setIfInBounds_toArray, List.set_cons_zero, List.set_cons_succ]
          refine wpAnyH_takeD (i := 27) (d := 57) (v := ?vm27) rfl rfl (by kernel_rfl) (by kernel_rfl) (by kernel_rfl) (fun _ _ _ h => h) (Or.inl ⟨by rfl, ?yvm27⟩) (by assumption) ?rvm27
          case yvm27 => (intro w hSw; (try dsimp only at hSw); go_simp <;> with_reducible rfl)
          try simp only [Act.put, List.setIfInBounds_toArray, List.set_cons_zero, List.set_cons_succ]
          refine wpAnyH_takeD (i := 28) (d := 58) (v := ?vm28) rfl rfl (by kernel_rfl) (by kernel_rfl) (by kernel_rfl) (fun _ _ _ h => h) (Or.inl ⟨by rfl, ?yvm28⟩) (by assumption) ?rvm28
          case yvm28 => (intro w hSw; (try dsimp only at hSw); go_simp <;> with_reducible rfl)
          try simp only [Act.put, List.setIfInBounds_toArray, List.set_cons_zero, List.set_cons_succ]
          refine wpAnyH_done (by kernel_rfl) ?_ _
          go_wp2_with fail
          go_meet
          exact ⟨by rw [HBV.out]; rfl, Lib.hid (BxS.bel hkeep)⟩
    case rest =>
    obtain ⟨rfl, HB3⟩ := hcut
    clear HCK HIK HLN HSD3
    cases B3 with
    | false =>
      have HF := Lib.hid (show RR = false from by rw [HRR3.out, hB3]; rfl)
      have HBF := Lib.hid (bnext HB0.out HB3.out)
      clear HRR3 hB3
      go_wp2_with fail
      go_ret
      exact ⟨by rw [HF.out]; rfl, HBF.out⟩
    | true =>
      have HRR7 := Lib.hid (show RR = (Au.rt7 c && Au.rtk c) from by rw [HRR3.out, hB3]; rfl)
      have HSTP := Lib.hid (show c.step ≤ 1000000 from by
        have h3 : (decide (Au.keyE c.key = 0) && decide (c.own.length = 32) && decide (0 ≤ c.step ∧ c.step ≤ Au.len c.proto)) = true := hB3
        rw [Bool.and_eq_true, decide_eq_true_eq] at h3
        have h4 := h3.2.2
        unfold Au.len at h4
        split at h4 <;> omega)
      clear HRR3 hB3
      have HB3' := Lib.hid HB3.out
      obtain ⟨⟨x0, x1, x2, x3, x4, x5, x6, x7, x8, x9⟩, _⟩ := cv_reads ((HB3.out.block _ (row_ltA HR0.out)).trans HR0.out)
      have h7 : Au.rt7 c = ((Au.failed c || decide (c.phase = (Au.settled c).phase)) && decide (c.user = (Au.settled c).user) && (Au.failed c == decide (c.err = 28)) && (Au.failed c || decide (c.err = 0))) := rfl
      have hfa : Au.failed c = (decide (c.phase = 4) && decide ((Au.settled c).phase = 2)) := rfl
      go_upto_region 5 with fail
      generalize Au.settled c = X at *
      go_wp2_with fail
      (with_reducible refine (HSE.out _ HB3.out).mono ?_); rintro e w3 ⟨xa, xn, xk, rfl, hta, hab, b3⟩
      go_upto_region 6 with fail
      have HXR := Lib.hid (heap_alloc_new w3 (.cells #[.int .i64 X.id, .string (T X.proto), .int .i64 X.role, .int .i64 X.phase, .int .i64 X.step, (.slice xa xn xk), .string (T X.own), .string (T X.peer), .string (T X.user), .int .i64 X.err] 25))
      have HBX := Lib.hid (bnext HB3.out (b3.alloc b3.size (.cells #[.int .i64 X.id, .string (T X.proto), .int .i64 X.role, .int .i64 X.phase, .int .i64 X.step, (.slice xa xn xk), .string (T X.own), .string (T X.peer), .string (T X.user), .int .i64 X.err] 25)))
      clear hta hab b3 x0 x1 x2 x3 x4 x5 x6 x7 x8 x9 HSE HB3 HB3'
      generalize w3.alloc _ = w4 at *
      obtain ⟨⟨x0, x1, x2, x3, x4, x5, x6, x7, x8, x9⟩, _⟩ := cv_reads ((HBX.out.block _ (row_ltA HR0.out)).trans HR0.out)
      obtain ⟨⟨z0, z1, z2, z3, z4, z5, z6, z7, z8, z9⟩, _⟩ := cv_reads HXR.out
      have HHX := Lib.hid HBX.out
      generalize Au.failed c = F at *
      have HF4 := Lib.hid hfa
      clear hfa
      go_cut [4] (fun t w' => t = .bool F ∧ w4 = w')
      case first =>
        repeat (rename (∀ (a : Act) (w : World), Code.wp _ _ _ a w → _) => ax; clear ax)
        by_cases a1 : c.phase = 4
        rotate_left
        · have HV := Lib.hid (show F = false from by rw [HF4.out, decide_eq_false a1]; rfl)
          have f1 : (c.phase == 4) = false := by rw [beq_eq_false_iff_ne]; exact a1
          clear a1 h7
          go_wp2_with fail
          go_meet
          exact ⟨by rw [HV.out], rfl⟩
        have f1 : (c.phase == 4) = true := by rw [a1]; rfl
        by_cases a2 : X.phase = 2
        · have HV := Lib.hid (show F = true from by rw [HF4.out, decide_eq_true a1, decide_eq_true a2]; rfl)
          have f2 : (X.phase == 2) = true := by rw [a2]; rfl
          clear a1 a2 h7
          go_wp2_with fail
          go_meet
          exact ⟨by rw [HV.out], rfl⟩
        · have HV := Lib.hid (show F = false from by rw [HF4.out, decide_eq_true a1, decide_eq_false a2]; rfl)
          have f2 : (X.phase == 2) = false := by rw [beq_eq_false_iff_ne]; exact a2
          clear a1 a2 h7
          go_wp2_with fail
          go_meet
          exact ⟨by rw [HV.out], rfl⟩
      case rest =>
      obtain ⟨rfl, rfl⟩ := hcut
      clear HF4
      obtain ⟨B7, hB7⟩ : ∃ b, Au.rt7 c = b := ⟨_, rfl⟩
      rw [hB7] at h7 HRR7
      clear hB7
      go_upto_region 7 with fail
      go_cut [100] (fun t w' => t = .bool (!B7) ∧ w4 = w')
      case first =>
        repeat (rename (∀ (a : Act) (w : World), Code.wp _ _ _ a w → _) => ax; clear ax)
        clear HRR7 HKN
        cases F with
        | true =>
          simp only [Bool.true_or, Bool.true_and, Bool.and_true] at h7
          by_cases a1 : c.user = X.user
          rotate_left
          · have HV := Lib.hid (show B7 = false from by rw [h7, decide_eq_false a1]; rfl)
            have f1 : (c.user == X.user) = false := seq_no a1
            clear a1 h7
            go_wp2_with fail
            go_meet
            exact ⟨by rw [HV.out]; rfl, rfl⟩
          have f1 : (c.user == X.user) = true := seq_yes a1
          by_cases a2 : c.err = 28
          · have HV := Lib.hid (show B7 = true from by rw [h7, decide_eq_true a1, decide_eq_true a2]; rfl)
            have f2 : (c.err == 28) = true := by rw [a2]; rfl
            clear a1 a2 h7
            go_wp2_with fail
            go_meet
            exact ⟨by rw [HV.out]; rfl, rfl⟩
          · have HV := Lib.hid (show B7 = false from by rw [h7, decide_eq_true a1, decide_eq_false a2]; rfl)
            have f2 : (c.err == 28) = false := by rw [beq_eq_false_iff_ne]; exact a2
            clear a1 a2 h7
            go_wp2_with fail
            go_meet
            exact ⟨by rw [HV.out]; rfl, rfl⟩
        | false =>
          simp only [Bool.false_or] at h7
          by_cases a0 : c.phase = X.phase
          rotate_left
          · have HV := Lib.hid (show B7 = false from by rw [h7, decide_eq_false a0]; rfl)
            have f0 : (c.phase != X.phase) = true := by simpa using a0
            clear a0 h7
            go_wp2_with fail
            go_meet
            exact ⟨by rw [HV.out]; rfl, rfl⟩
          have f0 : (c.phase != X.phase) = false := by simpa using a0
          rw [decide_eq_true a0, Bool.true_and] at h7
          clear a0
          by_cases a1 : c.user = X.user
          rotate_left
          · have HV := Lib.hid (show B7 = false from by rw [h7, decide_eq_false a1]; rfl)
            have f1 : (c.user == X.user) = false := seq_no a1
            clear a1 h7
            go_wp2_with fail
            go_meet
            exact ⟨by rw [HV.out]; rfl, rfl⟩
          have f1 : (c.user == X.user) = true := seq_yes a1
          rw [decide_eq_true a1, Bool.true_and] at h7
          clear a1
          by_cases a2 : c.err = 28
          · have HV := Lib.hid (show B7 = false from by rw [h7, decide_eq_true a2]; rfl)
            have f2 : (c.err == 28) = true := by rw [a2]; rfl
            clear a2 h7
            go_wp2_with fail
            go_meet
            exact ⟨by rw [HV.out]; rfl, rfl⟩
          have f2 : (c.err == 28) = false := by rw [beq_eq_false_iff_ne]; exact a2
          by_cases a3 : c.err = 0
          · have HV := Lib.hid (show B7 = true from by rw [h7, decide_eq_false a2, decide_eq_true a3]; rfl)
            have f3 : (c.err != 0) = false := by simpa using a3
            clear a2 a3 h7
            go_wp2_with fail
            go_meet
            exact ⟨by rw [HV.out]; rfl, rfl⟩
          · have HV := Lib.hid (show B7 = false from by rw [h7, decide_eq_false a2, decide_eq_false a3]; rfl)
            have f3 : (c.err != 0) = true := by simpa using a3
            clear a2 a3 h7
            go_wp2_with fail
            go_meet
            exact ⟨by rw [HV.out]; rfl, rfl⟩
      case rest =>
      obtain ⟨rfl, rfl⟩ := hcut
      clear h7 z0 z1 z2 z3 z4 z5 z6 z7 z8 z9
      cases B7 with
      | false =>
        have HF := Lib.hid (show RR = false from by rw [HRR7.out]; rfl)
        have HBF := Lib.hid (bnext HB0.out HHX.out)
        clear HRR7
        go_wp2_with fail
        go_ret
        exact ⟨by rw [HF.out]; rfl, HBF.out⟩
      | true =>
        have hrk : RR = Au.rtk c := by rw [HRR7.out]; rfl
        unfold Au.rtk at hrk
        have HKC := Lib.hid (HKN.out HSTP.out _ HHX.out)
        clear HRR7 HKN
        generalize Au.knows c = kb at *
        cases kb with
        | true =>
          rw [if_pos rfl] at hrk
          obtain ⟨LB, hLB⟩ : ∃ b, decide (c.peer.length = 32) = b := ⟨_, rfl⟩
          have f1 : ((c.peer.length : Int) == 32) = LB := by
            rw [← hLB]
            by_cases h : c.peer.length = 32
            · rw [decide_eq_true h, h]; rfl
            · rw [decide_eq_false h, beq_eq_false_iff_ne]; omega
          have HF := Lib.hid (hrk.trans hLB)
          clear hrk hLB
          go_wp2_with fail
          (with_reducible refine HKC.out.mono ?_); rintro e w5 ⟨rfl, b5⟩
          have HBF := Lib.hid (bnext HB0.out (bnext HHX.out b5))
          obtain ⟨⟨q0, q1, q2, q3, q4, q5, q6, q7, q8, q9⟩, _⟩ := cv_reads (((bnext HHX.out b5).block _ (row_ltA HR0.out)).trans HR0.out)
          clear b5
          go_wp2_with fail
          go_ret
          exact ⟨by rw [HF.out]; rfl, HBF.out⟩
        | false =>
          rw [if_neg (by decide)] at hrk
          obtain ⟨LB, hLB⟩ : ∃ b, decide (c.peer = []) = b := ⟨_, rfl⟩
          have f1 : (c.peer == []) = LB := by
            rw [← hLB]
            by_cases h : c.peer = []
            · rw [decide_eq_true h, h]; rfl
            · rw [decide_eq_false h]; exact seq_no h
          have HF := Lib.hid (hrk.trans hLB)
          clear hrk hLB
          go_wp2_with fail
          (with_reducible refine HKC.out.mono ?_); rintro e w5 ⟨rfl, b5⟩
          have HBF := Lib.hid (bnext HB0.out (bnext HHX.out b5))
          obtain ⟨⟨q0, q1, q2, q3, q4, q5, q6, q7, q8, q9⟩, _⟩ := cv_reads (((bnext HHX.out b5).block _ (row_ltA HR0.out)).trans HR0.out)
          clear b5
          go_wp2_with fail
          go_ret
          exact ⟨by rw [HF.out]; rfl, HBF.out⟩
end Go.Proofs.YtjjdaelddicokaaGreatDoor
