/- The walks of MountSame and MountUnions: true, for all inputs. Conditions: the slices hold the given mounts. -/
import Derived.Test.YtganenaaglfdnaaMntLaw
import Derived.Test.YtganenaaglfdnaaMntEqual
import Derived.Test.YtganenaaglfdnaaMntRRight
import Derived.Test.YtganenaaglfdnaaMntPSame
import Derived.Test.YtganenaaglfdnaaMntRSame
import Derived.Test.YtganenaaglfdnaaMntPlain
set_option linter.unusedVariables false
set_option linter.unusedSimpArgs false
namespace Go.Proofs.Ytganenaaglfdnaa
open Go.RowKit

set_option maxRecDepth 20000 in
set_option maxHeartbeats 8000000 in
theorem lsame_any (i1 : Int) (r1 : Chn) (v1 : Value) (m1 : List Mnt) (i2 : Int) (r2 : Chn) (v2 : Value) (m2 : List Mnt) (w : World) (hv1 : Mnts w v1 m1) (hv2 : Mnts w v2 m2) :
    Calls Try.prog 6 #[nsv i1 r1 v1, nsv i2 r2 v2] w fun e w' => e = .returned (.bool true) ∧ Below w.heap.size w w' := by
  obtain ⟨a1, n1, c1, rfl⟩ := hv1.form
  obtain ⟨rfl, hat1⟩ := hv1.at
  obtain ⟨a2, n2, c2, rfl⟩ := hv2.form
  obtain ⟨rfl, hat2⟩ := hv2.at
  clear hat1 hat2
  have HB0 := Lib.hid (((Below.refl w.heap.size w).alloc (Nat.le_refl _) (.cells #[.int .i64 i1, .int .i64 r1.dev, .int .i64 r1.id, .int .i64 r1.fid, .string (T r1.path), .string (T r1.name), .slice a1 m1.length c1] 26 (0, 0))).alloc (by simp) (.cells #[.int .i64 i2, .int .i64 r2.dev, .int .i64 r2.id, .int .i64 r2.fid, .string (T r2.path), .string (T r2.name), .slice a2 m2.length c2] 26 (0, 0)))
  have HV1 := Lib.hid (hv1.below HB0.out)
  have HV2 := Lib.hid (hv2.below HB0.out)
  clear hv1 hv2
  unfold nsv
  go_enter Try.func6, Try.ntmps6
  go_upto_region 1 with fail
  obtain ⟨hr0, hr1, hb0⟩ := mafter2 (w := w) (A := .cells #[.int .i64 i1, .int .i64 r1.dev, .int .i64 r1.id, .int .i64 r1.fid, .string (T r1.path), .string (T r1.name), .slice a1 m1.length c1] 26 (0, 0)) (B := .cells #[.int .i64 i2, .int .i64 r2.dev, .int .i64 r2.id, .int .i64 r2.fid, .string (T r2.path), .string (T r2.name), .slice a2 m2.length c2] 26 (0, 0)) (Below.refl _ _)
  generalize (w.alloc _).alloc _ = W0 at *
  have HBF := Lib.hid (show ∀ W, Below W0.heap.size W0 W → Below w.heap.size w W from fun W h => bnext HB0.out h)
  clear hb0 HB0
  generalize w.heap.size = gn at hr0 hr1 ⊢
  have HN1 := Lib.hid hr0
  have HN2 := Lib.hid hr1
  clear hr0 hr1
  have HNXT := Lib.hid (show ∀ W, Below W0.heap.size W0 W → (NbS W0 W gn i1 r1 (.slice a1 m1.length c1) ∧ NbS W0 W (gn + 1) i2 r2 (.slice a2 m2.length c2)) from fun W h => ⟨nb_s HN1.out h, nb_s HN2.out h⟩)
  have HSM1 := Lib.hid (fun (W : World) (h : Below W0.heap.size W0 W) => show Calls Try.prog 10 #[.agg #[.int .i64 i1, .int .i64 r1.dev, .int .i64 r1.id, .int .i64 r1.fid, .string (T r1.path), .string (T r1.name), .slice a1 m1.length c1]] W (SmSays m1 W) from small_any i1 r1 _ m1 W (HV1.out.below h))
  have HSM2 := Lib.hid (fun (W : World) (h : Below W0.heap.size W0 W) => show Calls Try.prog 10 #[.agg #[.int .i64 i2, .int .i64 r2.dev, .int .i64 r2.id, .int .i64 r2.fid, .string (T r2.path), .string (T r2.name), .slice a2 m2.length c2]] W (SmSays m2 W) from small_any i2 r2 _ m2 W (HV2.out.below h))
  obtain ⟨⟨h0, h1, h2, h3, h4, h5, h6, _⟩, _⟩ := HNXT.out _ (Below.refl _ _)
  go_wp2_with fail
  (with_reducible refine (HSM1.out _ (Below.refl _ _)).mono ?_); rintro e w1 ⟨x, rfl, hx, b1⟩
  have HB1 := Lib.hid b1
  clear h0 h1 h2 h3 h4 h5 h6 b1
  cases x
  · clear hx
    go_wp2_with fail
    have HA := Lib.hid (show Calls Try.prog 11 #[] w1 _ from awake_any w1)
    (with_reducible refine HA.out.mono ?_); rintro e w9 ⟨rfl, b9⟩
    have HB9 := Lib.hid (HBF.out _ (bnext HB1.out b9))
    clear b9
    go_wp2_with fail
    go_ret
    exact ⟨rfl, HB9.out⟩
  have HX1 := Lib.hid (hx rfl)
  clear hx
  obtain ⟨_, ⟨k0, k1, k2, k3, k4, k5, k6, _⟩⟩ := HNXT.out _ HB1.out
  go_wp2_with fail
  (with_reducible refine (HSM2.out _ HB1.out).mono ?_); rintro e w2 ⟨x, rfl, hx, b2⟩
  have HB2 := Lib.hid (bnext HB1.out b2)
  clear k0 k1 k2 k3 k4 k5 k6 b2
  cases x
  · clear hx
    go_wp2_with fail
    have HA := Lib.hid (show Calls Try.prog 11 #[] w2 _ from awake_any w2)
    (with_reducible refine HA.out.mono ?_); rintro e w9 ⟨rfl, b9⟩
    have HB9 := Lib.hid (HBF.out _ (bnext HB2.out b9))
    clear b9
    go_wp2_with fail
    go_ret
    exact ⟨rfl, HB9.out⟩
  obtain ⟨hl2, hu2'⟩ := hx rfl
  obtain ⟨hl1, hu1'⟩ := HX1.out
  have hu1 : ∀ m ∈ m1, m.to.length ≤ 1000000 := fun m hm => by have := hu1' m hm; omega
  have hu2 : ∀ m ∈ m2, m.to.length ≤ 1000000 := fun m hm => by have := hu2' m hm; omega
  clear hx HX1 hu1' hu2'
  obtain ⟨R1, hR1⟩ : ∃ R, Ns.right i1 r1 m1 = R := ⟨_, rfl⟩
  obtain ⟨R2, hR2⟩ : ∃ R, Ns.right i2 r2 m2 = R := ⟨_, rfl⟩
  obtain ⟨R, hR⟩ : ∃ R, Ns.same? r1 m1 r2 m2 = R := ⟨_, rfl⟩
  have HRR1 := Lib.hid (fun (W : World) (h : Below W0.heap.size W0 W) => show Calls Try.prog 13 #[.agg #[.int .i64 i1, .int .i64 r1.dev, .int .i64 r1.id, .int .i64 r1.fid, .string (T r1.path), .string (T r1.name), .slice a1 m1.length c1]] W fun e w' => e = .returned (.bool R1) ∧ Below W.heap.size W w' from (rmright_any i1 r1 _ m1 W (HV1.out.below h) (by omega) hu1).mono fun e w' h' => ⟨by rw [← hR1]; exact h'.1, h'.2⟩)
  have HRR2 := Lib.hid (fun (W : World) (h : Below W0.heap.size W0 W) => show Calls Try.prog 13 #[.agg #[.int .i64 i2, .int .i64 r2.dev, .int .i64 r2.id, .int .i64 r2.fid, .string (T r2.path), .string (T r2.name), .slice a2 m2.length c2]] W fun e w' => e = .returned (.bool R2) ∧ Below W.heap.size W w' from (rmright_any i2 r2 _ m2 W (HV2.out.below h) (by omega) hu2).mono fun e w' h' => ⟨by rw [← hR2]; exact h'.1, h'.2⟩)
  have HP12 := Lib.hid (fun (W : World) (h : (NbS W0 W gn i1 r1 (.slice a1 m1.length c1) ∧ NbS W0 W (gn + 1) i2 r2 (.slice a2 m2.length c2))) => show Calls Try.prog 26 #[.agg #[.int .i64 i1, .int .i64 r1.dev, .int .i64 r1.id, .int .i64 r1.fid, .string (T r1.path), .string (T r1.name), .slice a1 m1.length c1], .agg #[.int .i64 i2, .int .i64 r2.dev, .int .i64 r2.id, .int .i64 r2.fid, .string (T r2.path), .string (T r2.name), .slice a2 m2.length c2]] W fun e w' => e = .returned (.bool R) ∧ (NbS W0 w' gn i1 r1 (.slice a1 m1.length c1) ∧ NbS W0 w' (gn + 1) i2 r2 (.slice a2 m2.length c2)) from (msamens_any i1 r1 _ m1 i2 r2 _ m2 W (HV1.out.below h.1.2.2.2.2.2.2.2) (HV2.out.below h.1.2.2.2.2.2.2.2) (by omega) (by omega) hu1 hu2).mono fun e w' h' => ⟨by rw [← hR]; exact h'.1, HNXT.out _ (bnext h.1.2.2.2.2.2.2.2 h'.2)⟩)
  have HP21 := Lib.hid (fun (W : World) (h : (NbS W0 W gn i1 r1 (.slice a1 m1.length c1) ∧ NbS W0 W (gn + 1) i2 r2 (.slice a2 m2.length c2))) => show Calls Try.prog 26 #[.agg #[.int .i64 i2, .int .i64 r2.dev, .int .i64 r2.id, .int .i64 r2.fid, .string (T r2.path), .string (T r2.name), .slice a2 m2.length c2], .agg #[.int .i64 i1, .int .i64 r1.dev, .int .i64 r1.id, .int .i64 r1.fid, .string (T r1.path), .string (T r1.name), .slice a1 m1.length c1]] W fun e w' => e = .returned (.bool R) ∧ (NbS W0 w' gn i1 r1 (.slice a1 m1.length c1) ∧ NbS W0 w' (gn + 1) i2 r2 (.slice a2 m2.length c2)) from (msamens_any i2 r2 _ m2 i1 r1 _ m1 W (HV2.out.below h.1.2.2.2.2.2.2.2) (HV1.out.below h.1.2.2.2.2.2.2.2) (by omega) (by omega) hu2 hu1).mono fun e w' h' => ⟨by rw [← hR, Ns.same?_comm]; exact h'.1, HNXT.out _ (bnext h.1.2.2.2.2.2.2.2 h'.2)⟩)
  have HR12 := Lib.hid (fun (W : World) (h : (NbS W0 W gn i1 r1 (.slice a1 m1.length c1) ∧ NbS W0 W (gn + 1) i2 r2 (.slice a2 m2.length c2))) => show Calls Try.prog 27 #[.agg #[.int .i64 i1, .int .i64 r1.dev, .int .i64 r1.id, .int .i64 r1.fid, .string (T r1.path), .string (T r1.name), .slice a1 m1.length c1], .agg #[.int .i64 i2, .int .i64 r2.dev, .int .i64 r2.id, .int .i64 r2.fid, .string (T r2.path), .string (T r2.name), .slice a2 m2.length c2]] W fun e w' => e = .returned (.bool R) ∧ (NbS W0 w' gn i1 r1 (.slice a1 m1.length c1) ∧ NbS W0 w' (gn + 1) i2 r2 (.slice a2 m2.length c2)) from (rmsamens_any i1 r1 _ m1 i2 r2 _ m2 W (HV1.out.below h.1.2.2.2.2.2.2.2) (HV2.out.below h.1.2.2.2.2.2.2.2) (by omega) (by omega) hu1 hu2).mono fun e w' h' => ⟨by rw [← hR]; exact h'.1, HNXT.out _ (bnext h.1.2.2.2.2.2.2.2 h'.2)⟩)
  have HP11 := Lib.hid (fun (W : World) (h : (NbS W0 W gn i1 r1 (.slice a1 m1.length c1) ∧ NbS W0 W (gn + 1) i2 r2 (.slice a2 m2.length c2))) => show Calls Try.prog 26 #[.agg #[.int .i64 i1, .int .i64 r1.dev, .int .i64 r1.id, .int .i64 r1.fid, .string (T r1.path), .string (T r1.name), .slice a1 m1.length c1], .agg #[.int .i64 i1, .int .i64 r1.dev, .int .i64 r1.id, .int .i64 r1.fid, .string (T r1.path), .string (T r1.name), .slice a1 m1.length c1]] W fun e w' => e = .returned (.bool true) ∧ (NbS W0 w' gn i1 r1 (.slice a1 m1.length c1) ∧ NbS W0 w' (gn + 1) i2 r2 (.slice a2 m2.length c2)) from (msamens_any i1 r1 _ m1 i1 r1 _ m1 W (HV1.out.below h.1.2.2.2.2.2.2.2) (HV1.out.below h.1.2.2.2.2.2.2.2) (by omega) (by omega) hu1 hu1).mono fun e w' h' => ⟨by rw [← Ns.same?_refl r1 m1]; exact h'.1, HNXT.out _ (bnext h.1.2.2.2.2.2.2.2 h'.2)⟩)
  have HAW := Lib.hid (fun (W : World) (h : (NbS W0 W gn i1 r1 (.slice a1 m1.length c1) ∧ NbS W0 W (gn + 1) i2 r2 (.slice a2 m2.length c2))) => show Calls Try.prog 11 #[] W fun e w' => e = .returned (.bool true) ∧ (NbS W0 w' gn i1 r1 (.slice a1 m1.length c1) ∧ NbS W0 w' (gn + 1) i2 r2 (.slice a2 m2.length c2)) from (awake_any W).mono fun e w' h' => ⟨h'.1, HNXT.out _ (bnext h.1.2.2.2.2.2.2.2 h'.2)⟩)
  clear hu1 hu2 hR hR1 hR2 hl1 hl2
  obtain ⟨⟨h0, h1, h2, h3, h4, h5, h6, _⟩, _⟩ := HNXT.out _ HB2.out
  go_wp2_with fail
  (with_reducible refine (HRR1.out _ HB2.out).mono ?_); rintro e w3 ⟨rfl, b3⟩
  have HB3 := Lib.hid (bnext HB2.out b3)
  clear h0 h1 h2 h3 h4 h5 h6 b3
  cases R1
  ·
    go_wp2_with fail
    have HA := Lib.hid (show Calls Try.prog 11 #[] w3 _ from awake_any w3)
    (with_reducible refine HA.out.mono ?_); rintro e w9 ⟨rfl, b9⟩
    have HB9 := Lib.hid (HBF.out _ (bnext HB3.out b9))
    clear b9
    go_wp2_with fail
    go_ret
    exact ⟨rfl, HB9.out⟩
  obtain ⟨_, ⟨k0, k1, k2, k3, k4, k5, k6, _⟩⟩ := HNXT.out _ HB3.out
  go_wp2_with fail
  (with_reducible refine (HRR2.out _ HB3.out).mono ?_); rintro e w4 ⟨rfl, b4⟩
  have HB4 := Lib.hid (bnext HB3.out b4)
  clear k0 k1 k2 k3 k4 k5 k6 b4
  cases R2
  ·
    go_wp2_with fail
    have HA := Lib.hid (show Calls Try.prog 11 #[] w4 _ from awake_any w4)
    (with_reducible refine HA.out.mono ?_); rintro e w9 ⟨rfl, b9⟩
    have HB9 := Lib.hid (HBF.out _ (bnext HB4.out b9))
    clear b9
    go_wp2_with fail
    go_ret
    exact ⟨rfl, HB9.out⟩
  have HST := Lib.hid (HNXT.out _ (below_drew1 HB4.out))
  go_upto_region 3 with fail
  obtain ⟨⟨h0, h1, h2, h3, h4, h5, h6, _⟩, ⟨k0, k1, k2, k3, k4, k5, k6, _⟩⟩ := HNXT.out _ HB4.out
  cases R
  all_goals
    go_region_held_law (fun W' => (NbS W0 W' gn i1 r1 (.slice a1 m1.length c1) ∧ NbS W0 W' (gn + 1) i2 r2 (.slice a2 m2.length c2))) (first | (with_reducible assumption) | (with_reducible exact HST.out)) (first | (go_at_call 26; (with_reducible refine (HP12.out _ (by assumption)).mono ?_); rintro e wx ⟨rfl, hkeep⟩) | (go_at_call 26; (with_reducible refine (HP21.out _ (by assumption)).mono ?_); rintro e wx ⟨rfl, hkeep⟩) | (go_at_call 26; (with_reducible refine (HP11.out _ (by assumption)).mono ?_); rintro e wx ⟨rfl, hkeep⟩) | (go_at_call 27; (with_reducible refine (HR12.out _ (by assumption)).mono ?_); rintro e wx ⟨rfl, hkeep⟩) | (go_at_call 11; (with_reducible refine (HAW.out _ (by assumption)).mono ?_); rintro e wx ⟨rfl, hkeep⟩))
  all_goals
    go_wp2_with fail
    go_ret
    exact ⟨rfl, HBF.out _ hkeep.1.2.2.2.2.2.2.2⟩
end Go.Proofs.Ytganenaaglfdnaa
