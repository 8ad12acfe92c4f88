/- The walk of MountRight: true, for all inputs. Conditions: the slice holds the given mounts. -/
import Derived.Test.YtganenaaglfdnaaMntLaw
import Derived.Test.YtganenaaglfdnaaMntEqual
import Derived.Test.YtganenaaglfdnaaMntRRight
import Derived.Test.YtganenaaglfdnaaMntCopy
set_option linter.unusedVariables false
set_option linter.unusedSimpArgs false
namespace Go.Proofs.Ytganenaaglfdnaa
open Go.RowKit

set_option maxRecDepth 20000 in
set_option maxHeartbeats 8000000 in
theorem lright_any (id : Int) (r : Chn) (v : Value) (ms : List Mnt) (k : Int) (w : World) (hv : Mnts w v ms) :
    Calls Try.prog 3 #[nsv id r v, .int .i64 k] w fun e w' => e = .returned (.bool true) ∧ Below w.heap.size w w' := by
  obtain ⟨ao, n, cp, rfl⟩ := hv.form
  obtain ⟨rfl, hat⟩ := hv.at
  clear hat
  have HV := Lib.hid hv
  clear hv
  unfold nsv
  go_enter Try.func3, Try.ntmps3
  go_upto_region 1 with fail
  have HNX := Lib.hid (heap_alloc_new w (.cells #[.int .i64 id, .int .i64 r.dev, .int .i64 r.id, .int .i64 r.fid, .string (T r.path), .string (T r.name), .slice ao ms.length cp] 26 (0, 0)))
  have HB0 := Lib.hid ((Below.refl w.heap.size w).alloc (Nat.le_refl _) (.cells #[.int .i64 id, .int .i64 r.dev, .int .i64 r.id, .int .i64 r.fid, .string (T r.path), .string (T r.name), .slice ao ms.length cp] 26 (0, 0)))
  have HV0 := Lib.hid (HV.out.below HB0.out)
  clear HV
  generalize w.alloc _ = W0 at *
  have HBF := Lib.hid (show ∀ W, Below W0.heap.size W0 W → Below w.heap.size w W from fun W h => bnext HB0.out h)
  generalize w.heap.size = gn at HNX ⊢
  have HSM := Lib.hid (fun (W : World) (h : Below W0.heap.size W0 W) => show Calls Try.prog 10 #[.agg #[.int .i64 id, .int .i64 r.dev, .int .i64 r.id, .int .i64 r.fid, .string (T r.path), .string (T r.name), .slice ao ms.length cp]] W (SmSays ms W) from small_any id r _ ms W (HV0.out.below h))
  obtain ⟨h0, h1, h2, h3, h4, h5, h6, _⟩ := nb_s HNX.out (Below.refl _ _)
  go_wp2_with fail
  (with_reducible refine (HSM.out _ (Below.refl _ _)).mono ?_); rintro e w1 ⟨x, rfl, hx, b1⟩
  have HB1 := Lib.hid b1
  clear h0 h1 h2 h3 h4 h5 h6 b1
  cases x
  · clear hx
    go_wp2_with fail
    have HA := Lib.hid (show Calls Try.prog 11 #[] w1 _ from awake_any w1)
    (with_reducible refine HA.out.mono ?_); rintro e w2 ⟨rfl, b2⟩
    have HB2 := Lib.hid (HBF.out _ (bnext HB1.out b2))
    clear b2
    go_wp2_with fail
    go_ret
    exact ⟨rfl, HB2.out⟩
  obtain ⟨hl, hu⟩ := hx rfl
  have hu6 : ∀ m ∈ ms, m.to.length ≤ 1000000 := fun m hm => by have := hu m hm; omega
  obtain ⟨R, hR⟩ : ∃ R, Ns.right id r ms = R := ⟨_, rfl⟩
  have HRT := Lib.hid (fun (W : World) (h : NbS W0 W gn id r (.slice ao ms.length cp)) => show Calls Try.prog 12 #[.agg #[.int .i64 id, .int .i64 r.dev, .int .i64 r.id, .int .i64 r.fid, .string (T r.path), .string (T r.name), .slice ao ms.length cp]] W fun e w' => e = .returned (.bool R) ∧ NbS W0 w' gn id r (.slice ao ms.length cp) from ((mright_any id r _ ms W (HV0.out.below h.2.2.2.2.2.2.2) (by omega) hu6)).mono fun e w' h' => ⟨by rw [← hR]; exact h'.1, nb_s HNX.out (bnext h.2.2.2.2.2.2.2 h'.2)⟩)
  have HRR := Lib.hid (fun (W : World) (h : NbS W0 W gn id r (.slice ao ms.length cp)) => show Calls Try.prog 13 #[.agg #[.int .i64 id, .int .i64 r.dev, .int .i64 r.id, .int .i64 r.fid, .string (T r.path), .string (T r.name), .slice ao ms.length cp]] W fun e w' => e = .returned (.bool R) ∧ NbS W0 w' gn id r (.slice ao ms.length cp) from ((rmright_any id r _ ms W (HV0.out.below h.2.2.2.2.2.2.2) (by omega) hu6)).mono fun e w' h' => ⟨by rw [← hR]; exact h'.1, nb_s HNX.out (bnext h.2.2.2.2.2.2.2 h'.2)⟩)
  have HNW := Lib.hid (fun (W : World) (h : NbS W0 W gn id r (.slice ao ms.length cp)) => show Calls Try.prog 15 #[.int .i64 k, .agg #[.int .i64 r.dev, .int .i64 r.id, .int .i64 r.fid, .string (T r.path), .string (T r.name)]] W fun e w' => e = .returned (.agg #[.int .i64 k, .int .i64 r.dev, .int .i64 r.id, .int .i64 r.fid, .string (T r.path), .string (T r.name), .slice none 0 0]) ∧ NbS W0 w' gn id r (.slice ao ms.length cp) from (mnew_any k r W).mono fun e w' h' => ⟨h'.1, nb_s HNX.out (bnext h.2.2.2.2.2.2.2 h'.2)⟩)
  have HRN := Lib.hid (fun (W : World) (h : NbS W0 W gn id r (.slice ao ms.length cp)) => show Calls Try.prog 16 #[.int .i64 k, .agg #[.int .i64 r.dev, .int .i64 r.id, .int .i64 r.fid, .string (T r.path), .string (T r.name)]] W fun e w' => e = .returned (.agg #[.int .i64 k, .int .i64 r.dev, .int .i64 r.id, .int .i64 r.fid, .string (T r.path), .string (T r.name), .slice none 0 0]) ∧ NbS W0 w' gn id r (.slice ao ms.length cp) from (rmnew_any k r W).mono fun e w' h' => ⟨h'.1, nb_s HNX.out (bnext h.2.2.2.2.2.2.2 h'.2)⟩)
  have HE0 := Lib.hid (fun (W : World) (h : NbS W0 W gn id r (.slice ao ms.length cp)) => show Calls Try.prog 14 #[.agg #[.int .i64 k, .int .i64 r.dev, .int .i64 r.id, .int .i64 r.fid, .string (T r.path), .string (T r.name), .slice none 0 0], .agg #[.int .i64 k, .int .i64 r.dev, .int .i64 r.id, .int .i64 r.fid, .string (T r.path), .string (T r.name), .slice none 0 0]] W fun e w' => e = .returned (.bool true) ∧ NbS W0 w' gn id r (.slice ao ms.length cp) from (eqns_any k r _ _ [] W (mnts_nil W) (mnts_nil W) (by decide) (by intro m hm; cases hm)).mono fun e w' h' => ⟨h'.1, nb_s HNX.out (bnext h.2.2.2.2.2.2.2 h'.2)⟩)
  have HAW := Lib.hid (fun (W : World) (h : NbS W0 W gn id r (.slice ao ms.length cp)) => show Calls Try.prog 11 #[] W fun e w' => e = .returned (.bool true) ∧ NbS W0 w' gn id r (.slice ao ms.length cp) from (awake_any W).mono fun e w' h' => ⟨h'.1, nb_s HNX.out (bnext h.2.2.2.2.2.2.2 h'.2)⟩)
  have HCP := Lib.hid (fun (W : World) (h : NbS W0 W gn id r (.slice ao ms.length cp)) => show Calls Try.prog 17 #[.agg #[.int .i64 id, .int .i64 r.dev, .int .i64 r.id, .int .i64 r.fid, .string (T r.path), .string (T r.name), .slice ao ms.length cp], .int .i64 k] W fun e w' => ∃ a n c, e = .returned (.agg #[.int .i64 k, .int .i64 r.dev, .int .i64 r.id, .int .i64 r.fid, .string (T r.path), .string (T r.name), .slice a n c]) ∧ Mnts w' (.slice a n c) ms ∧ Below W.heap.size W w' ∧ NbS W0 w' gn id r (.slice ao ms.length cp) from
      (mcopy_any id r _ ms k W (HV0.out.below h.2.2.2.2.2.2.2) (by omega) hu6).mono fun e w' h' => by
        obtain ⟨v', e1, e2, e3⟩ := h'
        obtain ⟨a1, n1, c1, rfl⟩ := e2.mnts.form
        exact ⟨a1, n1, c1, e1, e2.mnts, e3, nb_s HNX.out (bnext h.2.2.2.2.2.2.2 e3)⟩)
  have HRC := Lib.hid (fun (W : World) (h : NbS W0 W gn id r (.slice ao ms.length cp)) => show Calls Try.prog 18 #[.agg #[.int .i64 id, .int .i64 r.dev, .int .i64 r.id, .int .i64 r.fid, .string (T r.path), .string (T r.name), .slice ao ms.length cp], .int .i64 k] W fun e w' => e = .returned (.agg #[.int .i64 k, .int .i64 r.dev, .int .i64 r.id, .int .i64 r.fid, .string (T r.path), .string (T r.name), .slice ao ms.length cp]) ∧ Below W.heap.size W w' ∧ NbS W0 w' gn id r (.slice ao ms.length cp) from
      (rmcopy_any id r ao ms.length cp k W).mono fun e w' h' => ⟨h'.1, h'.2, nb_s HNX.out (bnext h.2.2.2.2.2.2.2 h'.2)⟩)
  have HEQ := Lib.hid (fun (W : World) (a : Option Addr) (n c : Nat) (hm : Mnts W (.slice a n c) ms) (h : NbS W0 W gn id r (.slice ao ms.length cp)) => show Calls Try.prog 14 #[.agg #[.int .i64 k, .int .i64 r.dev, .int .i64 r.id, .int .i64 r.fid, .string (T r.path), .string (T r.name), .slice a n c], .agg #[.int .i64 k, .int .i64 r.dev, .int .i64 r.id, .int .i64 r.fid, .string (T r.path), .string (T r.name), .slice ao ms.length cp]] W fun e w' => e = .returned (.bool true) ∧ NbS W0 w' gn id r (.slice ao ms.length cp) from
      (eqns_any k r _ _ ms W hm (HV0.out.below h.2.2.2.2.2.2.2) (by omega) hu6).mono fun e w' h' => ⟨h'.1, nb_s HNX.out (bnext h.2.2.2.2.2.2.2 h'.2)⟩)
  clear hx hu hu6 hR hl
  have HST := Lib.hid (nb_s HNX.out (below_drew1 HB1.out))
  go_upto_region 3 with fail
  go_cut [25] (fun x w' => x = .bool false ∧ Hid (NbS W0 w' gn id r (.slice ao ms.length cp)))
  case first =>
    obtain ⟨h0, h1, h2, h3, h4, h5, h6, _⟩ := nb_s HNX.out HB1.out
    cases R
    all_goals
      go_region_held_law (fun W' => NbS W0 W' gn id r (.slice ao ms.length cp)) (first | (with_reducible assumption) | (with_reducible exact HST.out)) (first | (go_at_call 12; (with_reducible refine (HRT.out _ (by assumption)).mono ?_); rintro e wx ⟨rfl, hkeep⟩) | (go_at_call 13; (with_reducible refine (HRR.out _ (by assumption)).mono ?_); rintro e wx ⟨rfl, hkeep⟩) | (go_at_call 15; (with_reducible refine (HNW.out _ (by assumption)).mono ?_); rintro e wx ⟨rfl, hkeep⟩) | (go_at_call 16; (with_reducible refine (HRN.out _ (by assumption)).mono ?_); rintro e wx ⟨rfl, hkeep⟩) | (go_at_call 14; (with_reducible refine (HE0.out _ (by assumption)).mono ?_); rintro e wx ⟨rfl, hkeep⟩))
    all_goals
      go_wp2_with fail
      go_meet
      exact ⟨rfl, Lib.hid (by assumption)⟩
  case rest =>
    obtain ⟨rfl, HS3⟩ := hcut
    generalize wc = w3 at *
    have HST := Lib.hid (nb_s HNX.out (below_drew1 HS3.out.2.2.2.2.2.2.2))
    obtain ⟨h0, h1, h2, h3, h4, h5, h6, HB1'⟩ := HS3.out
    replace HB1 := Lib.hid HB1'
    clear HB1'
    go_upto_region 5 with fail
    cases R
    · -- not valid
      go_upto_region 5 with fail
      refine wp_region_held_drew (S := (fun W' => NbS W0 W' gn id r (.slice ao ms.length cp))) (by kernel_rfl) (nb_s HNX.out (below_drew1 HB1.out)) (fun hHeld => ?_)
      refine wpAnyH_takeD (i := 0) (d := 26) (v := ?v0) rfl rfl (by kernel_rfl) (by kernel_rfl) (by kernel_rfl) (fun _ _ _ h => h) (Or.inl ⟨by rfl, ?yv0⟩) (by assumption) ?rv0
      case yv0 => (intro w hSw; (try dsimp only at hSw); go_simp <;> with_reducible rfl)
      try simp only [Act.put, List.setIfInBounds_toArray, List.set_cons_zero, List.set_cons_succ]
      refine wpAnyH_ready (rs := [1]) (by kernel_rfl) (by simp) ?_
      refine AllReadyH.cons rfl (fun K hK => ?_) AllReadyH.nil
      go_simp
      go_wp2_with (go_at_call 13; (with_reducible refine (HRR.out _ (by assumption)).mono ?_); rintro e wx ⟨rfl, hkeep⟩)
      refine hK.out _ _ hkeep (fun hHeld => ?_)
      clear hK K
      try simp only [Act.put, List.setIfInBounds_toArray, List.set_cons_zero, List.set_cons_succ]
      refine wpAnyH_takeD (i := 2) (d := 28) (v := ?v2) rfl rfl (by kernel_rfl) (by kernel_rfl) (by kernel_rfl) (fun _ _ _ h => h) (Or.inl ⟨by rfl, ?yv2⟩) (by assumption) ?rv2
      case yv2 => (intro w hSw; (try dsimp only at hSw); go_simp <;> with_reducible rfl)
      try simp only [Act.put, List.setIfInBounds_toArray, List.set_cons_zero, List.set_cons_succ]
      refine wpAnyH_takeD (i := 3) (d := 29) (v := ?v3) rfl rfl (by kernel_rfl) (by kernel_rfl) (by kernel_rfl) (fun _ _ _ h => h) (Or.inl ⟨by rfl, ?yv3⟩) (by assumption) ?rv3
      case yv3 => (intro w hSw; (try dsimp only at hSw); go_simp <;> with_reducible rfl)
      try simp only [Act.put, List.setIfInBounds_toArray, List.set_cons_zero, List.set_cons_succ]
      refine wpAnyH_skips (by kernel_rfl) (fun _ _ _ _ h => h) (by assumption) [(4, 30), (5, 31), (6, 32), (7, 33), (8, 34), (9, 35), (10, 36)] 5 _ _ _ rfl (by kernel_rfl) ?_
      simp only [skipAct, skipListed, Act.put, List.setIfInBounds_toArray, List.set_cons_zero, List.set_cons_succ]
      refine wpAnyH_takeD (i := 11) (d := 37) (v := ?v11) rfl rfl (by kernel_rfl) (by kernel_rfl) (by kernel_rfl) (fun _ _ _ h => h) (Or.inl ⟨by rfl, ?yv11⟩) (by assumption) ?rv11
      case yv11 => (intro w hSw; (try dsimp only at hSw); go_simp <;> with_reducible rfl)
      try simp only [Act.put, List.setIfInBounds_toArray, List.set_cons_zero, List.set_cons_succ]
      refine wpAnyH_takeD (i := 12) (d := 38) (v := ?v12) rfl rfl (by kernel_rfl) (by kernel_rfl) (by kernel_rfl) (fun _ _ _ h => h) (Or.inl ⟨by rfl, ?yv12⟩) (by assumption) ?rv12
      case yv12 => (intro w hSw; (try dsimp only at hSw); go_simp <;> with_reducible rfl)
      try simp only [Act.put, List.setIfInBounds_toArray, List.set_cons_zero, List.set_cons_succ]
      refine wpAnyH_ready (rs := [13]) (by kernel_rfl) (by simp) ?_
      refine AllReadyH.cons rfl (fun K hK => ?_) AllReadyH.nil
      go_simp
      go_wp2_with (go_at_call 11; (with_reducible refine (HAW.out _ (by assumption)).mono ?_); rintro e wx ⟨rfl, hkeep⟩)
      refine hK.out _ _ hkeep (fun hHeld => ?_)
      clear hK K
      try simp only [Act.put, List.setIfInBounds_toArray, List.set_cons_zero, List.set_cons_succ]
      refine wpAnyH_takeD (i := 14) (d := 40) (v := ?v14) rfl rfl (by kernel_rfl) (by kernel_rfl) (by kernel_rfl) (fun _ _ _ h => h) (Or.inl ⟨by rfl, ?yv14⟩) (by assumption) ?rv14
      case yv14 => (intro w hSw; (try dsimp only at hSw); go_simp <;> with_reducible rfl)
      try simp only [Act.put, List.setIfInBounds_toArray, List.set_cons_zero, List.set_cons_succ]
      refine wpAnyH_takeD (i := 15) (d := 4) (v := ?v15) rfl rfl (by kernel_rfl) (by kernel_rfl) (by kernel_rfl) (fun _ _ _ h => h) (Or.inl ⟨by rfl, ?yv15⟩) (by assumption) ?rv15
      case yv15 => (intro w hSw; (try dsimp only at hSw); go_simp <;> with_reducible rfl)
      try simp only [Act.put, List.setIfInBounds_toArray, List.set_cons_zero, List.set_cons_succ]
      refine wpAnyH_done (by kernel_rfl) ?_ _
      go_wp2_with fail
      go_ret
      exact ⟨rfl, HBF.out _ hkeep.2.2.2.2.2.2.2⟩
    · go_region_held_law (fun W' => NbS W0 W' gn id r (.slice ao ms.length cp)) (first | (with_reducible assumption) | (with_reducible exact HST.out)) (first | (go_at_call 13; (with_reducible refine (HRR.out _ (by assumption)).mono ?_); rintro e wx ⟨rfl, hkeep⟩) | (go_at_call 17; (with_reducible refine (HCP.out _ (by assumption)).mono ?_); rintro e wx ⟨a7, n7, c7, rfl, hm7, b7, hkeep⟩; clear b7) | (go_at_call 18; (with_reducible refine (HRC.out _ (by assumption)).mono ?_); rintro e wx ⟨rfl, b7, hkeep⟩; (try (replace hm7 := hm7.below b7)); clear b7) | (go_at_call 14; (with_reducible refine (HEQ.out _ _ _ _ (by assumption) (by assumption)).mono ?_); rintro e wx ⟨rfl, hkeep⟩) | (go_at_call 11; (with_reducible refine (HAW.out _ (by assumption)).mono ?_); rintro e wx ⟨rfl, hkeep⟩))
      all_goals
        go_wp2_with fail
        go_ret
        exact ⟨rfl, HBF.out _ hkeep.2.2.2.2.2.2.2⟩
end Go.Proofs.Ytganenaaglfdnaa
