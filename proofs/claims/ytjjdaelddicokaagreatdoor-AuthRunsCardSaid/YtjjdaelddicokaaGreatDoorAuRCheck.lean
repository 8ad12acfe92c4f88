/- What the reference's one and Check return. Conditions: at most 10^6 attributes, texts of at most 10^9 bytes. -/
import Derived.Test.YtjjdaelddicokaaGreatDoorAuRName
set_option linter.unusedVariables false
set_option linter.unusedSimpArgs false
namespace Go.Proofs.YtjjdaelddicokaaGreatDoor
open Go.RowKit
open Au (Att)
namespace Au
theorem any_at {p : Att → Bool} {l : List Att} {k : Nat} (h : k < l.length) (hp : p l[k] = true) : l.any p = true := by
  rw [List.any_eq_true]; exact ⟨l[k], List.getElem_mem h, hp⟩
theorem any_none {p : Att → Bool} {l : List Att} (h : ∀ j (hj : j < l.length), ¬ p l[j] = true) : l.any p = false := by
  rw [List.any_eq_false]
  intro a ha
  obtain ⟨j, hj, rfl⟩ := List.getElem_of_mem ha
  exact h j hj
end Au
theorem row_ltA {W : World} {g : Nat} {o : Obj} (h : W.heap[g]? = some o) : g < W.heap.size := by
  rcases Nat.lt_or_ge g W.heap.size with h' | h'
  · exact h'
  · simp [Array.getElem?_eq_none h'] at h
set_option maxRecDepth 20000 in
set_option maxHeartbeats 2000000 in
theorem rone_any (v : Value) (l : List Att) (nm va : List UInt8) (q : Bool) (w : World) (hv : Atts w v l) (hl : l.length ≤ 1000000) (hnl : nm.length ≤ 1000000000) (hvl : va.length ≤ 1000000000) :
    Calls Tryz.prog 56 #[v, .agg #[.string (T nm), .string (T va), .bool q]] w fun e w' => e = .returned (.int .i64 (Au.one l ⟨nm, va, q⟩)) ∧ Below w.heap.size w w' := by
  have HB := Lib.hid ((Below.refl w.heap.size w).alloc (Nat.le_refl _) (.cells #[.string (T nm), .string (T va), .bool q] 52))
  have HNM := Lib.hid (fun W => rname_any nm W hnl)
  have HPL := Lib.hid (fun W => rplain_any va W hvl)
  obtain ⟨ao, cap, rfl, _, _, hcell⟩ := hv
  have HC := Lib.hid hcell
  clear hcell
  by_cases h1 : 32 ≤ l.length
  · have HF := Lib.hid (show Au.one l ⟨nm, va, q⟩ = 22 from by unfold Au.one; rw [if_pos h1])
    have k1 : (32 : Int) ≤ l.length := by omega
    clear h1
    go_enter Tryz.func56, Tryz.ntmps56
    go_wp2_with fail
    go_ret
    exact ⟨by rw [HF.out]; rfl, HB.out⟩
  have k1 : ¬ (32 : Int) ≤ l.length := by omega
  cases hN : Au.nameOk nm with
  | false =>
    have HF := Lib.hid (show Au.one l ⟨nm, va, q⟩ = 6 from by unfold Au.one; rw [if_neg h1, if_pos hN])
    rw [hN] at HNM
    clear h1 hN
    go_enter Tryz.func56, Tryz.ntmps56
    go_wp2_with fail
    (with_reducible refine (HNM.out _).mono ?_); rintro e w1 ⟨rfl, rfl⟩
    go_wp2_with fail
    go_ret
    exact ⟨by rw [HF.out]; rfl, HB.out⟩
  | true =>
    rw [hN] at HNM
    by_cases h2 : q = true ∧ va ≠ []
    · have HF := Lib.hid (show Au.one l ⟨nm, va, q⟩ = 2 from by unfold Au.one; rw [if_neg h1, if_neg (by simp [hN]), if_pos h2])
      obtain ⟨rfl, h2⟩ := h2
      have e1 := seq_no h2
      clear h1 hN h2
      go_enter Tryz.func56, Tryz.ntmps56
      go_wp2_with fail
      (with_reducible refine (HNM.out _).mono ?_); rintro e w1 ⟨rfl, rfl⟩
      go_wp2_with fail
      go_ret
      exact ⟨by rw [HF.out]; rfl, HB.out⟩
    have HONE := Lib.hid (show Au.one l ⟨nm, va, q⟩ = if Au.plainT va = false then 2 else if 1024 < va.length then 4 else if l.any (Au.sameNm ⟨nm, va, q⟩) = true then 7 else 0 from by unfold Au.one; rw [if_neg h1, if_neg (by simp [hN]), if_neg h2])
    have hq : q = false ∨ (q = true ∧ (va == []) = true) := by
      cases q with
      | false => exact .inl rfl
      | true =>
        refine .inr ⟨rfl, seq_yes ?_⟩
        cases va with
        | nil => rfl
        | cons a b => exact absurd ⟨rfl, by simp⟩ h2
    clear h1 h2 hN
    cases hP : Au.plainT va with
    | false =>
      have HF := Lib.hid (show Au.one l ⟨nm, va, q⟩ = 2 from by rw [HONE.out, if_pos hP])
      rw [hP] at HPL
      clear HONE hP
      rcases hq with rfl | ⟨rfl, hq⟩
      all_goals
        go_enter Tryz.func56, Tryz.ntmps56
        go_wp2_with fail
        (with_reducible refine (HNM.out _).mono ?_); rintro e w1 ⟨rfl, rfl⟩
        go_wp2_with fail
        (with_reducible refine (HPL.out _).mono ?_); rintro e w2 ⟨rfl, rfl⟩
        go_wp2_with fail
        go_ret
        exact ⟨by rw [HF.out]; rfl, HB.out⟩
    | true =>
      rw [hP] at HPL
      by_cases h3 : 1024 < va.length
      · have HF := Lib.hid (show Au.one l ⟨nm, va, q⟩ = 4 from by rw [HONE.out, if_neg (by simp [hP]), if_pos h3])
        have k3 : (1024 : Int) < va.length := by omega
        clear HONE hP h3
        rcases hq with rfl | ⟨rfl, hq⟩
        all_goals
          go_enter Tryz.func56, Tryz.ntmps56
          go_wp2_with fail
          (with_reducible refine (HNM.out _).mono ?_); rintro e w1 ⟨rfl, rfl⟩
          go_wp2_with fail
          (with_reducible refine (HPL.out _).mono ?_); rintro e w2 ⟨rfl, rfl⟩
          go_wp2_with fail
          go_ret
          exact ⟨by rw [HF.out]; rfl, HB.out⟩
      · have HF := Lib.hid (show Au.one l ⟨nm, va, q⟩ = if l.any (Au.sameNm ⟨nm, va, q⟩) = true then 7 else 0 from by rw [HONE.out, if_neg (by simp [hP]), if_neg h3])
        have k3 : ¬ (1024 : Int) < va.length := by omega
        have HAT := Lib.hid (fun (k : Nat) (hk : k < l.length) (hp : Au.sameNm ⟨nm, va, q⟩ l[k] = true) => show Au.one l ⟨nm, va, q⟩ = 7 from by rw [HF.out, Au.any_at hk hp, if_pos rfl])
        have HNO := Lib.hid (fun (h : ∀ j (hj : j < l.length), ¬ Au.sameNm ⟨nm, va, q⟩ l[j] = true) => show Au.one l ⟨nm, va, q⟩ = 0 from by rw [HF.out, Au.any_none h, if_neg (by simp)])
        clear HONE hP h3 HF
        rcases hq with rfl | ⟨rfl, hq⟩
        · go_enter Tryz.func56, Tryz.ntmps56
          go_wp2_with fail
          (with_reducible refine (HNM.out _).mono ?_); rintro e w1 ⟨rfl, rfl⟩
          go_wp2_with fail
          (with_reducible refine (HPL.out _).mono ?_); rintro e w2 ⟨rfl, rfl⟩
          go_wp2_with fail
          have hb0 := HB.out
          have b0 : (w.alloc (.cells #[.string (T nm), .string (T va), .bool false] 52)).cell? ⟨w.heap.size, 0, none⟩ = some (.string (T nm)) := by rw [cell_of_row _ _ _ _ _ _ (heap_alloc_new _ _)]; rfl
          have hlt0 : w.heap.size < (w.alloc (.cells #[.string (T nm), .string (T va), .bool false] 52)).heap.size := row_ltA (heap_alloc_new _ _)
          generalize w.alloc _ = W0 at *
          go_loopw [5] (fun i wr => ∃ k : Nat, k ≤ l.length ∧ i = .int .i64 (k : Int) ∧ Hid (∀ j (hj : j < k) (hk : k ≤ l.length), ¬ Au.sameNm ⟨nm, va, false⟩ (l[j]'(by omega)) = true) ∧ Hid (Below W0.heap.size W0 wr)) (fun i _ => l.length - (intOf i).toNat)
          case atStart => exact ⟨0, by omega, rfl, (fun j hj => by omega), Lib.hid (Below.refl _ _)⟩
          case round =>
            obtain ⟨k, hk, rfl, hn, HBR⟩ := hrel
            by_cases hlt : k < l.length
            · obtain ⟨b, off, rfl, hbl, cc⟩ := HC.out k hlt
              have HBW := Lib.hid (bnext HB.out HBR.out)
              obtain ⟨d0, d1, d2⟩ := ACells.below cc HBW.out hbl
              have b0r : wr.cell? ⟨w.heap.size, 0, none⟩ = some (.string (T nm)) := (HBR.out.cell (p := ⟨w.heap.size, 0, none⟩) hlt0).trans b0
              have HATK := Lib.hid (fun h => HAT.out k hlt h)
              have HNX := Lib.hid (show (¬ Au.sameNm ⟨nm, va, false⟩ l[k] = true) → ∀ j (hj : j < k + 1) (hk : k + 1 ≤ l.length), ¬ Au.sameNm ⟨nm, va, false⟩ (l[j]'(by omega)) = true from fun he j hj hk' => by
                rcases Nat.lt_or_ge j k with h | h
                · exact hn.out j h (by omega)
                · obtain rfl : j = k := by omega
                  exact he)
              have hsm : Au.sameNm ⟨nm, va, false⟩ l[k] = decide (l[k].name = nm) := rfl
              rw [hsm] at HATK HNX
              clear hsm cc d1 d2 b0
              generalize l[k].name = n2 at *
              by_cases he : n2 = nm
              · have HF := Lib.hid (HATK.out (decide_eq_true he))
                have e1 := seq_yes he
                clear HATK HNX he
                go_wp2_with fail
                go_quiet (fail)
                go_wp2_with fail
                go_ret
                exact ⟨by rw [HF.out]; rfl, below_drewN HBW.out _⟩
              · have HF := Lib.hid (HNX.out (by simpa using he))
                have e1 := seq_no he
                have HBN := Lib.hid HBR.out
                clear HATK HNX he
                go_wp2_with fail
                go_quiet (fail)
                go_wp2_with fail
                go_roundw
                case rel => exact ⟨k + 1, by omega, by go_num, HF, Lib.hid (below_drewN HBR.out _)⟩
                case measure => simp [intOf]; omega
            · obtain rfl : k = l.length := by omega
              have HF := Lib.hid (HNO.out (fun j hj => hn.out j hj (Nat.le_refl _)))
              go_wp2_with fail
              go_ret
              exact ⟨by rw [HF.out]; rfl, bnext HB.out HBR.out⟩
        · go_enter Tryz.func56, Tryz.ntmps56
          go_wp2_with fail
          (with_reducible refine (HNM.out _).mono ?_); rintro e w1 ⟨rfl, rfl⟩
          go_wp2_with fail
          (with_reducible refine (HPL.out _).mono ?_); rintro e w2 ⟨rfl, rfl⟩
          go_wp2_with fail
          have hb0 := HB.out
          have b0 : (w.alloc (.cells #[.string (T nm), .string (T va), .bool true] 52)).cell? ⟨w.heap.size, 0, none⟩ = some (.string (T nm)) := by rw [cell_of_row _ _ _ _ _ _ (heap_alloc_new _ _)]; rfl
          have hlt0 : w.heap.size < (w.alloc (.cells #[.string (T nm), .string (T va), .bool true] 52)).heap.size := row_ltA (heap_alloc_new _ _)
          generalize w.alloc _ = W0 at *
          go_loopw [5] (fun i wr => ∃ k : Nat, k ≤ l.length ∧ i = .int .i64 (k : Int) ∧ Hid (∀ j (hj : j < k) (hk : k ≤ l.length), ¬ Au.sameNm ⟨nm, va, true⟩ (l[j]'(by omega)) = true) ∧ Hid (Below W0.heap.size W0 wr)) (fun i _ => l.length - (intOf i).toNat)
          case atStart => exact ⟨0, by omega, rfl, (fun j hj => by omega), Lib.hid (Below.refl _ _)⟩
          case round =>
            obtain ⟨k, hk, rfl, hn, HBR⟩ := hrel
            by_cases hlt : k < l.length
            · obtain ⟨b, off, rfl, hbl, cc⟩ := HC.out k hlt
              have HBW := Lib.hid (bnext HB.out HBR.out)
              obtain ⟨d0, d1, d2⟩ := ACells.below cc HBW.out hbl
              have b0r : wr.cell? ⟨w.heap.size, 0, none⟩ = some (.string (T nm)) := (HBR.out.cell (p := ⟨w.heap.size, 0, none⟩) hlt0).trans b0
              have HATK := Lib.hid (fun h => HAT.out k hlt h)
              have HNX := Lib.hid (show (¬ Au.sameNm ⟨nm, va, true⟩ l[k] = true) → ∀ j (hj : j < k + 1) (hk : k + 1 ≤ l.length), ¬ Au.sameNm ⟨nm, va, true⟩ (l[j]'(by omega)) = true from fun he j hj hk' => by
                rcases Nat.lt_or_ge j k with h | h
                · exact hn.out j h (by omega)
                · obtain rfl : j = k := by omega
                  exact he)
              have hsm : Au.sameNm ⟨nm, va, true⟩ l[k] = decide (l[k].name = nm) := rfl
              rw [hsm] at HATK HNX
              clear hsm cc d1 d2 b0
              generalize l[k].name = n2 at *
              by_cases he : n2 = nm
              · have HF := Lib.hid (HATK.out (decide_eq_true he))
                have e1 := seq_yes he
                clear HATK HNX he
                go_wp2_with fail
                go_quiet (fail)
                go_wp2_with fail
                go_ret
                exact ⟨by rw [HF.out]; rfl, below_drewN HBW.out _⟩
              · have HF := Lib.hid (HNX.out (by simpa using he))
                have e1 := seq_no he
                have HBN := Lib.hid HBR.out
                clear HATK HNX he
                go_wp2_with fail
                go_quiet (fail)
                go_wp2_with fail
                go_roundw
                case rel => exact ⟨k + 1, by omega, by go_num, HF, Lib.hid (below_drewN HBR.out _)⟩
                case measure => simp [intOf]; omega
            · obtain rfl : k = l.length := by omega
              have HF := Lib.hid (HNO.out (fun j hj => hn.out j hj (Nat.le_refl _)))
              go_wp2_with fail
              go_ret
              exact ⟨by rw [HF.out]; rfl, bnext HB.out HBR.out⟩
set_option maxRecDepth 20000 in
set_option maxHeartbeats 2000000 in
theorem rchk_any (v : Value) (l : List Att) (w : World) (hv : Atts w v l) (hl : l.length ≤ 1000000) (hs : Fits l) :
    Calls Tryz.prog 39 #[v] w fun e w' => e = .returned (.int .i64 (Au.check l)) ∧ Below w.heap.size w w' := by
  have HV := Lib.hid hv
  obtain ⟨ao, cap, rfl, hcap, hn, hcell⟩ := hv
  have HC := Lib.hid hcell
  have HS := Lib.hid hs
  have HA := Lib.hid (Au.check_at l)
  have HN := Lib.hid (Au.check_none l)
  have HB0 := Lib.hid (Below.refl w.heap.size w)
  clear hcell hn hs
  go_enter Tryz.func39, Tryz.ntmps39
  go_wp2_with fail
  go_loopw [3] (fun i wr => ∃ k : Nat, k ≤ l.length ∧ i = .int .i64 (k : Int) ∧ Hid (∀ j (hj : j < k) (hk : k ≤ l.length), Au.one (l.take j) (l[j]'(by omega)) = 0) ∧ Hid (Below w.heap.size w wr)) (fun i _ => l.length - (intOf i).toNat)
  case atStart => exact ⟨0, by omega, rfl, (fun j hj => by omega), HB0⟩
  case round =>
    obtain ⟨k, hk, rfl, hn, HB⟩ := hrel
    by_cases hlt : k < l.length
    · obtain ⟨b, off, rfl, hbl, cc⟩ := HC.out k hlt
      obtain ⟨d0, d1, d2⟩ := ACells.below cc HB.out hbl
      have hki : (k : Int) < (l.length : Int) := by omega
      have hkc : (k : Int) ≤ (cap : Int) := by omega
      have HCL := Lib.hid (fun (W : World) (hb : Below wr.heap.size wr W) => rone_any (.slice (some ⟨b, off, none⟩) k cap) (l.take k) l[k].name l[k].value l[k].query W ((HV.out.take (k := k) (by omega)).below (bnext HB.out hb)) (by rw [List.length_take]; omega) (HS.out k hlt).1 (HS.out k hlt).2)
      have HAK := Lib.hid (HA.out k hlt (fun j hj => hn.out j hj (by omega)))
      have HNX := Lib.hid (show Au.one (l.take k) l[k] = 0 → ∀ j (hj : j < k + 1) (hk : k + 1 ≤ l.length), Au.one (l.take j) (l[j]'(by omega)) = 0 from fun he j hj hk' => by
        rcases Nat.lt_or_ge j k with h | h
        · exact hn.out j h (by omega)
        · obtain rfl : j = k := by omega
          exact he)
      have hone : Au.one (l.take k) l[k] = Au.one (l.take k) ⟨l[k].name, l[k].value, l[k].query⟩ := rfl
      rw [hone] at HAK HNX
      generalize Au.one (l.take k) ⟨l[k].name, l[k].value, l[k].query⟩ = E at *
      clear hone cc
      generalize l[k].name = nm at *
      generalize l[k].value = va at *
      generalize l[k].query = q at *
      have HBA := Lib.hid (below_drew1 (Below.refl wr.heap.size wr))
      by_cases he : E = 0
      · have HF := Lib.hid (HNX.out he)
        subst he
        clear HAK HNX
        go_upto_region 4 with fail
        go_region_law (go_simp; go_at_call 56; (with_reducible refine (HCL.out _ HBA.out).mono ?_); rintro e w1 ⟨rfl, b1⟩)
        have HB1 := Lib.hid (bnext HB.out (bnext HBA.out b1))
        clear b1
        go_wp2_with fail
        go_roundw
        case rel => exact ⟨k + 1, by omega, by go_num, HF, HB1⟩
        case measure => simp [intOf]; omega
      · have HF := Lib.hid (HAK.out he)
        clear HAK HNX
        have he1 : (E != 0) = true := by simpa using he
        go_upto_region 4 with fail
        go_region_law (go_simp; go_at_call 56; (with_reducible refine (HCL.out _ HBA.out).mono ?_); rintro e w1 ⟨rfl, b1⟩)
        have HB1 := Lib.hid (bnext HB.out (bnext HBA.out b1))
        clear b1
        go_wp2_with fail
        go_ret
        exact ⟨by rw [HF.out]; rfl, HB1.out⟩
    · obtain rfl : k = l.length := by omega
      have HF := Lib.hid (HN.out (fun j hj => hn.out j hj (Nat.le_refl _)))
      go_wp2_with fail
      go_ret
      exact ⟨by rw [HF.out]; rfl, HB.out⟩
end Go.Proofs.YtjjdaelddicokaaGreatDoor
