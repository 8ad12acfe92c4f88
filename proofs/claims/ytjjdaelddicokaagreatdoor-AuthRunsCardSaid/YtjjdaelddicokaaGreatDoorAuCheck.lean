/- What attr.check and attr.Check return. Conditions: at most 10^6 attributes, texts of at most 10^9 bytes. -/
import Derived.Test.YtjjdaelddicokaaGreatDoorAuName
set_option linter.unusedVariables false
set_option linter.unusedSimpArgs false
namespace Go.Proofs.YtjjdaelddicokaaGreatDoor
open Go.RowKit
open Au (Att)
set_option maxRecDepth 20000 in
set_option maxHeartbeats 2000000 in
theorem acheck1_any (v : Value) (l : List Att) (nm va : List UInt8) (q : Bool) (w : World) (hv : Atts w v l) (hl : l.length ≤ 1000000) (hnl : nm.length ≤ 1000000000) (hvl : va.length ≤ 1000000000) :
    Calls Tryz.prog 51 #[v, .agg #[.string (T nm), .string (T va), .bool q]] w fun e w' => e = .returned (.int .i64 (Au.one l ⟨nm, va, q⟩)) ∧ Below w.heap.size w w' := by
  have HB := Lib.hid ((Below.refl w.heap.size w).alloc (Nat.le_refl _) (.cells #[.string (T nm), .string (T va), .bool q] 52))
  have HCC := Lib.hid (fun (W : World) (hb : Below (w.alloc (.cells #[.string (T nm), .string (T va), .bool q] 52)).heap.size (w.alloc (.cells #[.string (T nm), .string (T va), .bool q] 52)) W) =>
    ccontains_any v l ⟨nm, va, q⟩ w.heap.size W (by
      have hr := aafter1_new hb
      exact ⟨by rw [cell_of_row _ _ _ _ _ _ hr]; rfl, by rw [cell_of_row _ _ _ _ _ _ hr]; rfl, by rw [cell_of_row _ _ _ _ _ _ hr]; rfl⟩) (hv.below (aafter1 hb)) hl)
  have HNM := Lib.hid (fun W => isname_any nm W hnl)
  have HUN := Lib.hid (fun W => until_any va W hvl)
  have HUL := Lib.hid (Au.unt_lt va)
  have HLE := Lib.hid (Au.unt_le va)
  obtain ⟨ao, cap, rfl, _⟩ := hv
  by_cases h1 : 32 ≤ l.length
  · have HF := Lib.hid (show Au.one l ⟨nm, va, q⟩ = 22 from by unfold Au.one; rw [if_pos h1])
    have k1 : (32 : Int) ≤ l.length := by omega
    clear h1
    go_enter Tryz.func51, Tryz.ntmps51
    go_wp2_with fail
    go_ret
    exact ⟨by rw [HF.out]; rfl, HB.out⟩
  have k1 : ¬ (32 : Int) ≤ l.length := by omega
  cases hN : Au.nameOk nm with
  | false =>
    have HF := Lib.hid (show Au.one l ⟨nm, va, q⟩ = 6 from by unfold Au.one; rw [if_neg h1, if_pos hN])
    rw [hN] at HNM
    clear h1 hN
    go_enter Tryz.func51, Tryz.ntmps51
    go_wp2_with fail
    (with_reducible refine (HNM.out _).mono ?_); rintro e w1 ⟨rfl, rfl⟩
    go_wp2_with fail
    go_ret
    exact ⟨by rw [HF.out]; rfl, HB.out⟩
  | true =>
    rw [hN] at HNM
    by_cases h2 : q = true ∧ va ≠ []
    · have HF := Lib.hid (show Au.one l ⟨nm, va, q⟩ = 2 from by unfold Au.one; rw [if_neg h1, if_neg (by simp [hN]), if_pos h2])
      obtain ⟨rfl, h2⟩ := h2
      have e1 := seq_no h2
      clear h1 hN h2
      go_enter Tryz.func51, Tryz.ntmps51
      go_wp2_with fail
      (with_reducible refine (HNM.out _).mono ?_); rintro e w1 ⟨rfl, rfl⟩
      go_wp2_with fail
      go_ret
      exact ⟨by rw [HF.out]; rfl, HB.out⟩
    have HONE := Lib.hid (show Au.one l ⟨nm, va, q⟩ = if Au.plainT va = false then 2 else if 1024 < va.length then 4 else if l.any (Au.sameNm ⟨nm, va, q⟩) = true then 7 else 0 from by unfold Au.one; rw [if_neg h1, if_neg (by simp [hN]), if_neg h2])
    have hq : q = false ∨ (q = true ∧ (va == []) = true) := by
      cases q with
      | false => exact .inl rfl
      | true =>
        refine .inr ⟨rfl, seq_yes ?_⟩
        cases va with
        | nil => rfl
        | cons a b => exact absurd ⟨rfl, by simp⟩ h2
    clear h1 h2 hN
    have HUS := Lib.hid (fun n => Calls.quiet_of_same ((HUN.out ((w.alloc (.cells #[.string (T nm), .string (T va), .bool q] 52)).drewN n)).mono fun _ _ h => ⟨h.1, h.2.symm⟩))
    clear HUN
    generalize hz : Au.unt va = z at *
    clear hz
    cases hP : Au.plainT va with
    | false =>
      have hlt : (z : Int) < (va.length : Int) := by have := HUL.out.2 hP; omega
      have HF := Lib.hid (show Au.one l ⟨nm, va, q⟩ = 2 from by rw [HONE.out, if_pos hP])
      clear HONE hP HUL HLE
      rcases hq with rfl | ⟨rfl, hq⟩
      all_goals
        go_enter Tryz.func51, Tryz.ntmps51
        go_wp2_with fail
        (with_reducible refine (HNM.out _).mono ?_); rintro e w1 ⟨rfl, rfl⟩
        go_wp2_with fail
        go_quiet ((go_at_call 62; exact HUS.out _))
        go_wp2_with fail
        go_ret
        exact ⟨by rw [HF.out]; rfl, below_drewN HB.out _⟩
    | true =>
      have hlt : ¬ (z : Int) < (va.length : Int) := by
        intro h
        have := HUL.out.1 (by omega)
        rw [hP] at this
        cases this
      by_cases h3 : 1024 < va.length
      · have HF := Lib.hid (show Au.one l ⟨nm, va, q⟩ = 4 from by rw [HONE.out, if_neg (by simp [hP]), if_pos h3])
        have k3 : (1024 : Int) < va.length := by omega
        clear HONE hP HUL HLE h3
        rcases hq with rfl | ⟨rfl, hq⟩
        all_goals
          go_enter Tryz.func51, Tryz.ntmps51
          go_wp2_with fail
          (with_reducible refine (HNM.out _).mono ?_); rintro e w1 ⟨rfl, rfl⟩
          go_wp2_with fail
          go_quiet ((go_at_call 62; exact HUS.out _))
          go_wp2_with fail
          go_ret
          exact ⟨by rw [HF.out]; rfl, below_drewN HB.out _⟩
      · have HF := Lib.hid (show Au.one l ⟨nm, va, q⟩ = if l.any (Au.sameNm ⟨nm, va, q⟩) = true then 7 else 0 from by rw [HONE.out, if_neg (by simp [hP]), if_neg h3])
        have k3 : ¬ (1024 : Int) < va.length := by omega
        clear HONE hP HUL HLE h3
        generalize l.any (Au.sameNm ⟨nm, va, q⟩) = B at *
        rcases hq with rfl | ⟨rfl, hq⟩
        all_goals
          go_enter Tryz.func51, Tryz.ntmps51
          go_wp2_with fail
          (with_reducible refine (HNM.out _).mono ?_); rintro e w1 ⟨rfl, rfl⟩
          go_wp2_with fail
          go_quiet ((go_at_call 62; exact HUS.out _))
          go_wp2_with fail
          (with_reducible refine (HCC.out _ (below_drewN (Below.refl _ _) _)).mono ?_); rintro e w2 ⟨rfl, b2⟩
          have HB2 := Lib.hid (bnext (below_drewN HB.out _) b2)
          clear b2
          cases B
          all_goals
            go_wp2_with fail
            go_ret
            exact ⟨by rw [HF.out]; rfl, HB2.out⟩
end Go.Proofs.YtjjdaelddicokaaGreatDoor
