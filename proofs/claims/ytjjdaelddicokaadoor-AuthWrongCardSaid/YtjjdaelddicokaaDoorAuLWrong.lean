/- The law AuthWrong returns true. Conditions: the 64 constants in the variable. -/
import Derived.Test.YtjjdaelddicokaaDoorAuLHonest
set_option linter.unusedVariables false
set_option linter.unusedSimpArgs false
namespace Go.Proofs.YtjjdaelddicokaaDoor
open Go.RowKit
open Au (Att Cnv)
theorem eq_tt (u s u2 s2 : List UInt8) (w : World) : (Op.equalIn 10000 38 (.agg #[.string (T u), .string (T s)]) (.agg #[.string (T u2), .string (T s2)])).run Tryd.prog w = .ok (decide (u = u2) && decide (s = s2)) w := by
  have u3 := Tryd.underlying9
  have a3 := Tryd.isAgg9
  have z3 := Tryd.sizeOf9
  rw [show (10000 : Nat) = 9999 + 1 from rfl, Op.equalIn]
  simp only [Sem.run_bind, run_underlying Tryd.underlying38, Result.andThen_ok]
  simp only [Std.Legacy.Range.forIn_eq_forIn_range', Std.Legacy.Range.size, Nat.sub_zero, Nat.add_sub_cancel, Nat.div_one, List.range'_succ, List.range'_zero, List.forIn_cons, List.forIn_nil]
  go_simp
  by_cases h1 : u = u2 <;> by_cases h2 : s = s2 <;> simp [h1, h2]
theorem two_texts {w W : World} {a b c d : Value} (h : Below ((w.alloc (.cells #[a, b] 38)).alloc (.cells #[c, d] 38)).heap.size ((w.alloc (.cells #[a, b] 38)).alloc (.cells #[c, d] 38)) W) : W.cell? ⟨w.heap.size, 0, none⟩ = some a ∧ W.cell? ⟨w.heap.size, 1, none⟩ = some b ∧ W.cell? ⟨w.heap.size + 1, 0, none⟩ = some c ∧ W.cell? ⟨w.heap.size + 1, 1, none⟩ = some d := by
  obtain ⟨h1, h2, _⟩ := aafter2 h
  refine ⟨?_, ?_, ?_, ?_⟩
  · rw [cell_of_row _ _ _ _ _ _ h1]; rfl
  · rw [cell_of_row _ _ _ _ _ _ h1]; rfl
  · rw [cell_of_row _ _ _ _ _ _ h2]; rfl
  · rw [cell_of_row _ _ _ _ _ _ h2]; rfl
set_option maxRecDepth 100000 in
set_option maxHeartbeats 32000000 in
theorem wrong_T (k : Int) (u s u2 s2 cn sn : List UInt8) (w : World) (hK : KIn w) :
    Calls Tryd.prog 4 #[.int .i64 k, .agg #[.string (T u), .string (T s)], .agg #[.string (T u2), .string (T s2)], .string (T cn), .string (T sn)] w fun e w' => e = .returned (.bool true) ∧ Below w.heap.size w w' := by
  have HAL := Lib.hid (fun (W : World) (h : Below w.heap.size w W) => awake_any W (hK.below h))
  have HKI := Lib.hid (fun (W : World) (h : Below w.heap.size w W) => hK.below h)
  have HB0 := Lib.hid (below_al (below_al (Below.refl w.heap.size w) (.cells #[.string (T u), .string (T s)] 38)) (.cells #[.string (T u2), .string (T s2)] 38))
  have HM := Lib.hid (fun (W : World) (h : Below ((w.alloc (.cells #[.string (T u), .string (T s)] 38)).alloc (.cells #[.string (T u2), .string (T s2)] 38)).heap.size ((w.alloc (.cells #[.string (T u), .string (T s)] 38)).alloc (.cells #[.string (T u2), .string (T s2)] 38)) W) => two_texts h)
  clear hK
  by_cases k0 : k < 0
  ·
    go_enter Tryd.func4, Tryd.ntmps4
    go_upto_region 1 with fail
    generalize (w.alloc _).alloc _ = V0 at *
    go_wp2_with fail
    (with_reducible refine (protos_any _).mono ?_); rintro e v1 ⟨pb, rfl, hps, hbl⟩
    have HBW2 := Lib.hid (hbl)
    clear hbl
    clear hps
    obtain ⟨m0, m1, m2, m3⟩ := HM.out _ HBW2.out
    have HE1 := Lib.hid (bnext HB0.out HBW2.out)
    go_wp2_with fail
    (with_reducible refine (HAL.out _ (bnext HB0.out HBW2.out)).mono ?_); rintro e v3 ⟨rfl, hbz⟩
    have HBW4 := Lib.hid (hbz)
    clear hbz
    have HE := Lib.hid (bnext (bnext HB0.out HBW2.out) HBW4.out)
    go_wp2_with fail
    go_ret
    exact ⟨rfl, HE.out⟩
  have f0 : decide (k < 0) = false := decide_eq_false k0
  by_cases k3 : 3 ≤ k
  ·
    go_enter Tryd.func4, Tryd.ntmps4
    go_upto_region 1 with fail
    generalize (w.alloc _).alloc _ = V0 at *
    go_wp2_with fail
    (with_reducible refine (protos_any _).mono ?_); rintro e v1 ⟨pb, rfl, hps, hbl⟩
    have HBW2 := Lib.hid (hbl)
    clear hbl
    clear hps
    obtain ⟨m0, m1, m2, m3⟩ := HM.out _ HBW2.out
    have HE1 := Lib.hid (bnext HB0.out HBW2.out)
    go_wp2_with fail
    (with_reducible refine (HAL.out _ (bnext HB0.out HBW2.out)).mono ?_); rintro e v3 ⟨rfl, hbz⟩
    have HBW4 := Lib.hid (hbz)
    clear hbz
    have HE := Lib.hid (bnext (bnext HB0.out HBW2.out) HBW4.out)
    go_wp2_with fail
    go_ret
    exact ⟨rfl, HE.out⟩
  have f1 : decide ((3 : Int) ≤ k) = false := decide_eq_false k3
  obtain ⟨j, rfl⟩ : ∃ j : Nat, k = (j : Int) := ⟨k.toNat, by omega⟩
  have hj : j < 3 := by omega
  by_cases lu : 200 < u.length
  · have f2 : (200 : Int) < (u.length : Int) := by omega
    clear k0 k3 hj lu
    go_enter Tryd.func4, Tryd.ntmps4
    go_upto_region 1 with fail
    generalize (w.alloc _).alloc _ = V0 at *
    go_wp2_with fail
    (with_reducible refine (protos_any _).mono ?_); rintro e v1 ⟨pb, rfl, hps, hbl⟩
    have HBW2 := Lib.hid (hbl)
    clear hbl
    clear hps
    obtain ⟨m0, m1, m2, m3⟩ := HM.out _ HBW2.out
    have HE1 := Lib.hid (bnext HB0.out HBW2.out)
    go_wp2_with fail
    (with_reducible refine (HAL.out _ (bnext HB0.out HBW2.out)).mono ?_); rintro e v3 ⟨rfl, hbz⟩
    have HBW4 := Lib.hid (hbz)
    clear hbz
    have HE := Lib.hid (bnext (bnext HB0.out HBW2.out) HBW4.out)
    go_wp2_with fail
    go_ret
    exact ⟨rfl, HE.out⟩
  have f2 : decide ((200 : Int) < (u.length : Int)) = false := decide_eq_false (by omega)
  by_cases ls : 200 < s.length
  · have f3 : (200 : Int) < (s.length : Int) := by omega
    clear k0 k3 hj lu ls
    go_enter Tryd.func4, Tryd.ntmps4
    go_upto_region 1 with fail
    generalize (w.alloc _).alloc _ = V0 at *
    go_wp2_with fail
    (with_reducible refine (protos_any _).mono ?_); rintro e v1 ⟨pb, rfl, hps, hbl⟩
    have HBW2 := Lib.hid (hbl)
    clear hbl
    clear hps
    obtain ⟨m0, m1, m2, m3⟩ := HM.out _ HBW2.out
    have HE1 := Lib.hid (bnext HB0.out HBW2.out)
    go_wp2_with fail
    (with_reducible refine (HAL.out _ (bnext HB0.out HBW2.out)).mono ?_); rintro e v3 ⟨rfl, hbz⟩
    have HBW4 := Lib.hid (hbz)
    clear hbz
    have HE := Lib.hid (bnext (bnext HB0.out HBW2.out) HBW4.out)
    go_wp2_with fail
    go_ret
    exact ⟨rfl, HE.out⟩
  have f3 : decide ((200 : Int) < (s.length : Int)) = false := decide_eq_false (by omega)
  by_cases lu2 : 200 < u2.length
  · have f4 : (200 : Int) < (u2.length : Int) := by omega
    clear k0 k3 hj lu ls lu2
    go_enter Tryd.func4, Tryd.ntmps4
    go_upto_region 1 with fail
    generalize (w.alloc _).alloc _ = V0 at *
    go_wp2_with fail
    (with_reducible refine (protos_any _).mono ?_); rintro e v1 ⟨pb, rfl, hps, hbl⟩
    have HBW2 := Lib.hid (hbl)
    clear hbl
    clear hps
    obtain ⟨m0, m1, m2, m3⟩ := HM.out _ HBW2.out
    have HE1 := Lib.hid (bnext HB0.out HBW2.out)
    go_wp2_with fail
    (with_reducible refine (HAL.out _ (bnext HB0.out HBW2.out)).mono ?_); rintro e v3 ⟨rfl, hbz⟩
    have HBW4 := Lib.hid (hbz)
    clear hbz
    have HE := Lib.hid (bnext (bnext HB0.out HBW2.out) HBW4.out)
    go_wp2_with fail
    go_ret
    exact ⟨rfl, HE.out⟩
  have f4 : decide ((200 : Int) < (u2.length : Int)) = false := decide_eq_false (by omega)
  by_cases ls2 : 200 < s2.length
  · have f5 : (200 : Int) < (s2.length : Int) := by omega
    clear k0 k3 hj lu ls lu2 ls2
    go_enter Tryd.func4, Tryd.ntmps4
    go_upto_region 1 with fail
    generalize (w.alloc _).alloc _ = V0 at *
    go_wp2_with fail
    (with_reducible refine (protos_any _).mono ?_); rintro e v1 ⟨pb, rfl, hps, hbl⟩
    have HBW2 := Lib.hid (hbl)
    clear hbl
    clear hps
    obtain ⟨m0, m1, m2, m3⟩ := HM.out _ HBW2.out
    have HE1 := Lib.hid (bnext HB0.out HBW2.out)
    go_wp2_with fail
    (with_reducible refine (HAL.out _ (bnext HB0.out HBW2.out)).mono ?_); rintro e v3 ⟨rfl, hbz⟩
    have HBW4 := Lib.hid (hbz)
    clear hbz
    have HE := Lib.hid (bnext (bnext HB0.out HBW2.out) HBW4.out)
    go_wp2_with fail
    go_ret
    exact ⟨rfl, HE.out⟩
  have f5 : decide ((200 : Int) < (s2.length : Int)) = false := decide_eq_false (by omega)
  by_cases lcn : 100 < cn.length
  · have f6 : (100 : Int) < (cn.length : Int) := by omega
    clear k0 k3 hj lu ls lu2 ls2 lcn
    go_enter Tryd.func4, Tryd.ntmps4
    go_upto_region 1 with fail
    generalize (w.alloc _).alloc _ = V0 at *
    go_wp2_with fail
    (with_reducible refine (protos_any _).mono ?_); rintro e v1 ⟨pb, rfl, hps, hbl⟩
    have HBW2 := Lib.hid (hbl)
    clear hbl
    clear hps
    obtain ⟨m0, m1, m2, m3⟩ := HM.out _ HBW2.out
    have HE1 := Lib.hid (bnext HB0.out HBW2.out)
    go_wp2_with fail
    (with_reducible refine (HAL.out _ (bnext HB0.out HBW2.out)).mono ?_); rintro e v3 ⟨rfl, hbz⟩
    have HBW4 := Lib.hid (hbz)
    clear hbz
    have HE := Lib.hid (bnext (bnext HB0.out HBW2.out) HBW4.out)
    go_wp2_with fail
    go_ret
    exact ⟨rfl, HE.out⟩
  have f6 : decide ((100 : Int) < (cn.length : Int)) = false := decide_eq_false (by omega)
  by_cases lsn : 100 < sn.length
  · have f7 : (100 : Int) < (sn.length : Int) := by omega
    clear k0 k3 hj lu ls lu2 ls2 lcn lsn
    go_enter Tryd.func4, Tryd.ntmps4
    go_upto_region 1 with fail
    generalize (w.alloc _).alloc _ = V0 at *
    go_wp2_with fail
    (with_reducible refine (protos_any _).mono ?_); rintro e v1 ⟨pb, rfl, hps, hbl⟩
    have HBW2 := Lib.hid (hbl)
    clear hbl
    clear hps
    obtain ⟨m0, m1, m2, m3⟩ := HM.out _ HBW2.out
    have HE1 := Lib.hid (bnext HB0.out HBW2.out)
    go_wp2_with fail
    (with_reducible refine (HAL.out _ (bnext HB0.out HBW2.out)).mono ?_); rintro e v3 ⟨rfl, hbz⟩
    have HBW4 := Lib.hid (hbz)
    clear hbz
    have HE := Lib.hid (bnext (bnext HB0.out HBW2.out) HBW4.out)
    go_wp2_with fail
    go_ret
    exact ⟨rfl, HE.out⟩
  have f7 : decide ((100 : Int) < (sn.length : Int)) = false := decide_eq_false (by omega)
  by_cases hne : u = u2 ∧ s = s2
  · have hEQ : ∀ W, (Op.equalIn 10000 38 (.agg #[.string (T u), .string (T s)]) (.agg #[.string (T u2), .string (T s2)])).run Tryd.prog W = .ok true W := fun W => by rw [eq_tt, decide_eq_true hne.1, decide_eq_true hne.2]; rfl
    clear k0 k3 hj lu ls lu2 ls2 lcn lsn hne
    go_enter Tryd.func4, Tryd.ntmps4
    go_upto_region 1 with fail
    generalize (w.alloc _).alloc _ = V0 at *
    go_wp2_with fail
    (with_reducible refine (protos_any _).mono ?_); rintro e v1 ⟨pb, rfl, hps, hbl⟩
    have HBW2 := Lib.hid (hbl)
    clear hbl
    clear hps
    obtain ⟨m0, m1, m2, m3⟩ := HM.out _ HBW2.out
    have HE1 := Lib.hid (bnext HB0.out HBW2.out)
    go_wp2_with fail
    (with_reducible refine (HAL.out _ (bnext HB0.out HBW2.out)).mono ?_); rintro e v3 ⟨rfl, hbz⟩
    have HBW4 := Lib.hid (hbz)
    clear hbz
    have HE := Lib.hid (bnext (bnext HB0.out HBW2.out) HBW4.out)
    go_wp2_with fail
    go_ret
    exact ⟨rfl, HE.out⟩
  have hne2 : (decide (u = u2) && decide (s = s2)) = false := by
    by_cases h : u = u2
    · rw [decide_eq_false (fun h2 => hne ⟨h, h2⟩), Bool.and_false]
    · rw [decide_eq_false h, Bool.false_and]
  have hEQ : ∀ W, (Op.equalIn 10000 38 (.agg #[.string (T u), .string (T s)]) (.agg #[.string (T u2), .string (T s2)])).run Tryd.prog W = .ok false W := fun W => by rw [eq_tt, hne2]
  have HNE := Lib.hid hne
  obtain ⟨P, hP⟩ : ∃ P : List UInt8, prs[j]? = some (T P) := ⟨prs[j].data.toList, by rw [T_of]; exact List.getElem?_eq_getElem hj⟩
  have hPl : P.length ≤ 1000 := by
    have h3 : j = 0 ∨ j = 1 ∨ j = 2 := by omega
    rcases h3 with rfl | rfl | rfl
    · rw [← T_inj (Option.some.inj hP)]; decide
    · rw [← T_inj (Option.some.inj hP)]; decide
    · rw [← T_inj (Option.some.inj hP)]; decide
  have hPj := Lib.hid (fun (b : Nat) (W : World) (h : Strs W (.slice (some ⟨b, 0, none⟩) 3 3) prs) => prs_at hj hP h)
  have j0 : (0 : Int) ≤ (j : Int) := by omega
  have j3 : (j : Int) < 3 := by omega
  obtain ⟨C, er, hC⟩ : ∃ R e, Au.start P 1 (lkey u s) cn = (R, e) := ⟨_, _, rfl⟩
  obtain ⟨D, fr, hD⟩ : ∃ R e, Au.start P 2 (lkey u2 s2) sn = (R, e) := ⟨_, _, rfl⟩
  have HSC := Lib.hid (fun (W : World) (v : Value) (hk : Atts W v (lkey u s)) => start_lkey P 1 u s cn C er hC (by omega) (by omega) (by omega) W v hk)
  have HSD := Lib.hid (fun (W : World) (v : Value) (hk : Atts W v (lkey u2 s2)) => start_lkey P 2 u2 s2 sn D fr hD (by omega) (by omega) (by omega) W v hk)
  have HEQ0 := Lib.hid (fun (W : World) => equal_any P s s2 cn sn W (by omega) (by omega) (by omega) (by omega))
  have HC := Lib.hid hC
  have HD := Lib.hid hD
  clear hC hD k0 k3 hj lu ls lu2 ls2 lcn lsn hP hne hne2 hPl
  go_enter Tryd.func4, Tryd.ntmps4
  go_upto_region 1 with fail
  generalize (w.alloc _).alloc _ = V0 at *
  go_wp2_with fail
  (with_reducible refine (protos_any _).mono ?_); rintro e v1 ⟨pb, rfl, hps, hbl⟩
  have HBW2 := Lib.hid (hbl)
  clear hbl
  have HPS := Lib.hid hps
  clear hps
  obtain ⟨m0, m1, m2, m3⟩ := HM.out _ HBW2.out
  go_upto_region 4 with fail
  clear m0 m1 m2 m3
  have HP0a := Lib.hid (hPj.out pb v1 (HPS.out.below (Below.refl _ _)))
  have HP1a := Lib.hid (HM.out _ HBW2.out).1
  have HP2a := Lib.hid (HM.out _ HBW2.out).2.1
  go_upto_region 4 with fail
  have HSD0a := Lib.hid (sd3 HP0a.out HP1a.out HP2a.out (below_drew0 (w := v1)))
  have HKYZa := Lib.hid (fun (W' : World) (g0 : Nat) (h : W'.cell? ⟨pb, j, none⟩ = some (.string (T P)) ∧ W'.cell? ⟨w.heap.size, 0, none⟩ = some (.string (T u)) ∧ W'.cell? ⟨w.heap.size, 1, none⟩ = some (.string (T s)) ∧ Below v1.heap.size v1 W') (hz : W'.heap[g0]? = some (.cells #[.int .i64 0, .string (T []), .int .i64 0, .int .i64 0, .int .i64 0, .slice none 0 0, .string (T []), .string (T []), .string (T []), .int .i64 0] 28 (0, 0))) => (key_any u s W').mono fun e w' h' => (⟨W'.heap.size, h'.1, h'.2.1, sd3 HP0a.out HP1a.out HP2a.out (bnext (h.2.2.2) h'.2.2), Lib.hid ((h'.2.2.block _ (row_ltA hz)).trans hz)⟩ : ∃ g, e = .returned (.slice (some ⟨g, 0, none⟩) 2 2) ∧ Atts w' (.slice (some ⟨g, 0, none⟩) 2 2) (lkey u s) ∧ (w'.cell? ⟨pb, j, none⟩ = some (.string (T P)) ∧ w'.cell? ⟨w.heap.size, 0, none⟩ = some (.string (T u)) ∧ w'.cell? ⟨w.heap.size, 1, none⟩ = some (.string (T s)) ∧ Below v1.heap.size v1 w') ∧ Hid (w'.heap[g0]? = some (.cells #[.int .i64 0, .string (T []), .int .i64 0, .int .i64 0, .int .i64 0, .slice none 0 0, .string (T []), .string (T []), .string (T []), .int .i64 0] 28 (0, 0)))))
  have HKYa := Lib.hid (fun (W' : World) (h : W'.cell? ⟨pb, j, none⟩ = some (.string (T P)) ∧ W'.cell? ⟨w.heap.size, 0, none⟩ = some (.string (T u)) ∧ W'.cell? ⟨w.heap.size, 1, none⟩ = some (.string (T s)) ∧ Below v1.heap.size v1 W') => (key_any u s W').mono fun e w' h' => (⟨W'.heap.size, h'.1, h'.2.1, sd3 HP0a.out HP1a.out HP2a.out (bnext (h.2.2.2) h'.2.2)⟩ : ∃ g, e = .returned (.slice (some ⟨g, 0, none⟩) 2 2) ∧ Atts w' (.slice (some ⟨g, 0, none⟩) 2 2) (lkey u s) ∧ (w'.cell? ⟨pb, j, none⟩ = some (.string (T P)) ∧ w'.cell? ⟨w.heap.size, 0, none⟩ = some (.string (T u)) ∧ w'.cell? ⟨w.heap.size, 1, none⟩ = some (.string (T s)) ∧ Below v1.heap.size v1 w')))
  have HSTa := Lib.hid (fun (W' : World) (v : Value) (hk : Atts W' v (lkey u s)) (h : W'.cell? ⟨pb, j, none⟩ = some (.string (T P)) ∧ W'.cell? ⟨w.heap.size, 0, none⟩ = some (.string (T u)) ∧ W'.cell? ⟨w.heap.size, 1, none⟩ = some (.string (T s)) ∧ Below v1.heap.size v1 W') => (HSC.out W' v hk).mono fun e w' h' => (by obtain ⟨a, n, k, h1, h2, h3, h4⟩ := h'; exact ⟨a, n, k, h1, Lib.hid h2, sd3 HP0a.out HP1a.out HP2a.out (bnext (h.2.2.2) h4)⟩ : ∃ a n k, e = .returned (.tuple #[.agg #[.int .i64 C.id, .string (T C.proto), .int .i64 C.role, .int .i64 C.phase, .int .i64 C.step, (.slice a n k), .string (T C.own), .string (T C.peer), .string (T C.user), .int .i64 C.err], .int .i64 er]) ∧ Hid (Atts w' (.slice a n k) C.key) ∧ (w'.cell? ⟨pb, j, none⟩ = some (.string (T P)) ∧ w'.cell? ⟨w.heap.size, 0, none⟩ = some (.string (T u)) ∧ w'.cell? ⟨w.heap.size, 1, none⟩ = some (.string (T s)) ∧ Below v1.heap.size v1 w')))
  have HSTZa := Lib.hid (fun (W' : World) (v : Value) (g0 : Nat) (hk : Atts W' v (lkey u s)) (hz : W'.heap[g0]? = some (.cells #[.int .i64 0, .string (T []), .int .i64 0, .int .i64 0, .int .i64 0, .slice none 0 0, .string (T []), .string (T []), .string (T []), .int .i64 0] 28 (0, 0))) (hge : v1.heap.size ≤ g0) (h : W'.cell? ⟨pb, j, none⟩ = some (.string (T P)) ∧ W'.cell? ⟨w.heap.size, 0, none⟩ = some (.string (T u)) ∧ W'.cell? ⟨w.heap.size, 1, none⟩ = some (.string (T s)) ∧ Below v1.heap.size v1 W') => (HSC.out W' v hk).mono fun e w' h' => (by obtain ⟨a, n, k, h1, h2, h3, h4⟩ := h'; exact ⟨a, n, k, h1, Lib.hid h2, sd3 HP0a.out HP1a.out HP2a.out (bnext (h.2.2.2) h4), Lib.hid ⟨(h4.block _ (row_ltA hz)).trans hz, fun q hq => (by have := h3 q hq; have := row_ltA hz; omega)⟩, Lib.hid hge, cv_readsZ ((h4.block _ (row_ltA hz)).trans hz)⟩ : ∃ a n k, e = .returned (.tuple #[.agg #[.int .i64 C.id, .string (T C.proto), .int .i64 C.role, .int .i64 C.phase, .int .i64 C.step, (.slice a n k), .string (T C.own), .string (T C.peer), .string (T C.user), .int .i64 C.err], .int .i64 er]) ∧ Hid (Atts w' (.slice a n k) C.key) ∧ (w'.cell? ⟨pb, j, none⟩ = some (.string (T P)) ∧ w'.cell? ⟨w.heap.size, 0, none⟩ = some (.string (T u)) ∧ w'.cell? ⟨w.heap.size, 1, none⟩ = some (.string (T s)) ∧ Below v1.heap.size v1 w') ∧ Hid (w'.heap[g0]? = some (.cells #[.int .i64 0, .string (T []), .int .i64 0, .int .i64 0, .int .i64 0, .slice none 0 0, .string (T []), .string (T []), .string (T []), .int .i64 0] 28 (0, 0)) ∧ ∀ q, a = some q → q.block ≠ g0) ∧ Hid (v1.heap.size ≤ g0) ∧ (w'.cell? ⟨g0, 0, none⟩ = some (.int .i64 0) ∧ w'.cell? ⟨g0, 1, none⟩ = some (.string (T [])) ∧ w'.cell? ⟨g0, 2, none⟩ = some (.int .i64 0) ∧ w'.cell? ⟨g0, 3, none⟩ = some (.int .i64 0) ∧ w'.cell? ⟨g0, 4, none⟩ = some (.int .i64 0) ∧ w'.cell? ⟨g0, 5, none⟩ = some (.slice none 0 0) ∧ w'.cell? ⟨g0, 6, none⟩ = some (.string (T [])) ∧ w'.cell? ⟨g0, 7, none⟩ = some (.string (T [])) ∧ w'.cell? ⟨g0, 8, none⟩ = some (.string (T [])) ∧ w'.cell? ⟨g0, 9, none⟩ = some (.int .i64 0)) ∧ (w'.frozen? ⟨g0, 0, none⟩ = false ∧ w'.frozen? ⟨g0, 1, none⟩ = false ∧ w'.frozen? ⟨g0, 2, none⟩ = false ∧ w'.frozen? ⟨g0, 3, none⟩ = false ∧ w'.frozen? ⟨g0, 4, none⟩ = false ∧ w'.frozen? ⟨g0, 5, none⟩ = false ∧ w'.frozen? ⟨g0, 6, none⟩ = false ∧ w'.frozen? ⟨g0, 7, none⟩ = false ∧ w'.frozen? ⟨g0, 8, none⟩ = false ∧ w'.frozen? ⟨g0, 9, none⟩ = false)))
  have HKYAa := Lib.hid (HKYZa.out ((v1.alloc (.cells #[.int .i64 0, .string (T []), .int .i64 0, .int .i64 0, .int .i64 0, .slice none 0 0, .string (T []), .string (T []), .string (T []), .int .i64 0] 28)).drew) v1.heap.size (sd3 HP0a.out HP1a.out HP2a.out (below_drew1 (below_al (Below.refl _ _) _))) (heap_alloc_new v1 _))
  have HSTAa := Lib.hid (fun (W' : World) (v : Value) (hk : Atts W' v (lkey u s)) (h : W'.cell? ⟨pb, j, none⟩ = some (.string (T P)) ∧ W'.cell? ⟨w.heap.size, 0, none⟩ = some (.string (T u)) ∧ W'.cell? ⟨w.heap.size, 1, none⟩ = some (.string (T s)) ∧ Below v1.heap.size v1 W') => HSTZa.out (W'.alloc (.cells #[.int .i64 0, .string (T []), .int .i64 0, .int .i64 0, .int .i64 0, .slice none 0 0, .string (T []), .string (T []), .string (T []), .int .i64 0] 28)) v W'.heap.size (hk.below (below_al (Below.refl _ _) _)) (heap_alloc_new W' _) (h.2.2.2).size (sd3 HP0a.out HP1a.out HP2a.out (below_al (h.2.2.2) _)))
  have HGEa := Lib.hid (Nat.le_refl v1.heap.size)
  clear HKYZa
  go_cut [12, 13] (fun p q w' => ∃ g, p = .pointer (some ⟨g, 0, none⟩) ∧ q = .int .i64 er ∧ Hid (∃ ao n k, Bx w' g C ao n k ∧ Below v1.heap.size v1 w'))
  case first =>
    repeat (rename (∀ (a : Act) (w : World), Code.wp _ _ _ a w → _) => ax; clear ax)
    refine wp_region_held_drew (S := (fun W' => W'.cell? ⟨pb, j, none⟩ = some (.string (T P)) ∧ W'.cell? ⟨w.heap.size, 0, none⟩ = some (.string (T u)) ∧ W'.cell? ⟨w.heap.size, 1, none⟩ = some (.string (T s)) ∧ Below v1.heap.size v1 W')) (by kernel_rfl) HSD0a.out (fun hHeld => ?_)
    refine wpAnyH_takeD (i := 0) (d := 73) (v := ?vq1a) rfl rfl (by kernel_rfl) (by kernel_rfl) (by kernel_rfl) (fun _ _ _ h => h) (Or.inl ⟨by rfl, ?yq1a⟩) (by assumption) ?rq1a
    case yq1a => (intro w hSw; (try dsimp only at hSw); go_simp <;> with_reducible rfl)
    try simp only [Act.put, List.setIfInBounds_toArray, List.set_cons_zero, List.set_cons_succ]
    refine wpAnyH_takeD (i := 1) (d := 74) (v := ?vq2a) rfl rfl (by kernel_rfl) (by kernel_rfl) (by kernel_rfl) (fun _ _ _ h => h) (Or.inl ⟨by rfl, ?yq2a⟩) (by assumption) ?rq2a
    case yq2a => (intro w hSw; (try dsimp only at hSw); go_simp <;> with_reducible rfl)
    try simp only [Act.put, List.setIfInBounds_toArray, List.set_cons_zero, List.set_cons_succ]
    refine wpAnyH_takeD (i := 2) (d := 75) (v := ?vq3a) rfl rfl (by kernel_rfl) (by kernel_rfl) (by kernel_rfl) (fun _ _ _ h => h) (Or.inl ⟨by rfl, ?yq3a⟩) (by assumption) ?rq3a
    case yq3a => (intro w hSw; (try dsimp only at hSw); go_simp <;> with_reducible rfl)
    try simp only [Act.put, List.setIfInBounds_toArray, List.set_cons_zero, List.set_cons_succ]
    refine wpAnyH_takeD (i := 3) (d := 76) (v := ?vq4a) rfl rfl (by kernel_rfl) (by kernel_rfl) (by kernel_rfl) (fun _ _ _ h => h) (Or.inl ⟨by rfl, ?yq4a⟩) (by assumption) ?rq4a
    case yq4a => (intro w hSw; (try dsimp only at hSw); go_simp <;> with_reducible rfl)
    try simp only [Act.put, List.setIfInBounds_toArray, List.set_cons_zero, List.set_cons_succ]
    refine wpAnyH_takeD (i := 4) (d := 77) (v := ?vq5a) rfl rfl (by kernel_rfl) (by kernel_rfl) (by kernel_rfl) (fun _ _ _ h => h) (Or.inl ⟨by rfl, ?yq5a⟩) (by assumption) ?rq5a
    case yq5a => (intro w hSw; (try dsimp only at hSw); go_simp <;> with_reducible rfl)
    try simp only [Act.put, List.setIfInBounds_toArray, List.set_cons_zero, List.set_cons_succ]
    refine wpAnyH_takeD (i := 5) (d := 78) (v := ?vq6a) rfl rfl (by kernel_rfl) (by kernel_rfl) (by kernel_rfl) (fun _ _ _ h => h) (Or.inl ⟨by rfl, ?yq6a⟩) (by assumption) ?rq6a
    case yq6a => (intro w hSw; (try dsimp only at hSw); go_simp <;> with_reducible rfl)
    try simp only [Act.put, List.setIfInBounds_toArray, List.set_cons_zero, List.set_cons_succ]
    refine wpAnyH_takeD (i := 6) (d := 79) (v := ?vq7a) rfl rfl (by kernel_rfl) (by kernel_rfl) (by kernel_rfl) (fun _ _ _ h => h) (Or.inl ⟨by rfl, ?yq7a⟩) (by assumption) ?rq7a
    case yq7a => (intro w hSw; (try dsimp only at hSw); go_simp <;> with_reducible rfl)
    try simp only [Act.put, List.setIfInBounds_toArray, List.set_cons_zero, List.set_cons_succ]
    refine wpAnyH_takeD (i := 7) (d := 80) (v := ?vq8a) rfl rfl (by kernel_rfl) (by kernel_rfl) (by kernel_rfl) (fun _ _ _ h => h) (Or.inl ⟨by rfl, ?yq8a⟩) (by assumption) ?rq8a
    case yq8a => (intro w hSw; (try dsimp only at hSw); go_simp <;> with_reducible rfl)
    try simp only [Act.put, List.setIfInBounds_toArray, List.set_cons_zero, List.set_cons_succ]
    refine wpAnyH_takeD (i := 9) (d := 82) (v := ?vq9a) rfl rfl (by kernel_rfl) (by kernel_rfl) (by kernel_rfl) (fun _ _ _ h => h) (Or.inl ⟨by rfl, ?yq9a⟩) (by assumption) ?rq9a
    case yq9a => (intro w hSw; (try dsimp only at hSw); go_simp <;> with_reducible rfl)
    try simp only [Act.put, List.setIfInBounds_toArray, List.set_cons_zero, List.set_cons_succ]
    refine wpAnyH_ready (rs := [8, 14]) (by kernel_rfl) (by simp) ?_
    refine AllReadyH.cons rfl (fun K hK => ?_) (AllReadyH.cons rfl (fun K hK => ?_) AllReadyH.nil)
    · go_simp
      go_wp2_with (go_at_call 12; (with_reducible refine (HKYa.out _ HSD0a.out).mono ?_); rintro e w1 ⟨gk, rfl, hka, hkeep⟩)
      refine hK.out _ _ hkeep (fun hHeld => ?_)
      clear hK K
      try simp only [Act.put, List.setIfInBounds_toArray, List.set_cons_zero, List.set_cons_succ]
      refine wpAnyH_ready (rs := [10, 14]) (by kernel_rfl) (by simp) ?_
      refine AllReadyH.cons rfl (fun K hK => ?_) (AllReadyH.cons rfl (fun K hK => ?_) AllReadyH.nil)
      · go_simp
        go_wp2_with (go_at_call 11; (with_reducible refine (HSTa.out _ _ hka hkeep).mono ?_); rintro e w2 ⟨qa, qn, qk, rfl, hta, hkeep2⟩)
        refine hK.out _ _ hkeep2 (fun hHeld => ?_)
        clear hK K
        try simp only [Act.put, List.setIfInBounds_toArray, List.set_cons_zero, List.set_cons_succ]
        refine wpAnyH_takeD (i := 11) (d := 72) (v := ?vq10a) rfl rfl (by kernel_rfl) (by kernel_rfl) (by kernel_rfl) (fun _ _ _ h => h) (Or.inl ⟨by rfl, ?yq10a⟩) (by assumption) ?rq10a
        case yq10a => (intro w hSw; (try dsimp only at hSw); go_simp <;> with_reducible rfl)
        try simp only [Act.put, List.setIfInBounds_toArray, List.set_cons_zero, List.set_cons_succ]
        refine wpAnyH_takeD (i := 12) (d := 84) (v := ?vq11a) rfl rfl (by kernel_rfl) (by kernel_rfl) (by kernel_rfl) (fun _ _ _ h => h) (Or.inl ⟨by rfl, ?yq11a⟩) (by assumption) ?rq11a
        case yq11a => (intro w hSw; (try dsimp only at hSw); go_simp <;> with_reducible rfl)
        try simp only [Act.put, List.setIfInBounds_toArray, List.set_cons_zero, List.set_cons_succ]
        refine wpAnyH_takeD (i := 13) (d := 85) (v := ?vq12a) rfl rfl (by kernel_rfl) (by kernel_rfl) (by kernel_rfl) (fun _ _ _ h => h) (Or.inl ⟨by rfl, ?yq12a⟩) (by assumption) ?rq12a
        case yq12a => (intro w hSw; (try dsimp only at hSw); go_simp <;> with_reducible rfl)
        try simp only [Act.put, List.setIfInBounds_toArray, List.set_cons_zero, List.set_cons_succ]
        refine wpAnyH_ready (rs := [14]) (by kernel_rfl) (by simp) ?_
        refine AllReadyH.cons rfl (fun K hK => ?_) AllReadyH.nil
        · clear hka hkeep hHeld
          go_simp
          refine hK.out _ _ (sd3 HP0a.out HP1a.out HP2a.out (below_al (hkeep2.2.2.2) _)) (fun hHeld => ?_)
          clear hK K
          try simp only [Act.put, List.setIfInBounds_toArray, List.set_cons_zero, List.set_cons_succ]
          refine wpAnyH_ready (rs := [15]) (by kernel_rfl) (by simp) ?_
          refine AllReadyH.cons rfl (fun K hK => ?_) AllReadyH.nil
          · go_simp
            refine hK.out _ _ (sd3 HP0a.out HP1a.out HP2a.out (below_al (hkeep2.2.2.2) _)) (fun hHeld => ?_)
            clear hK K
            try simp only [Act.put, List.setIfInBounds_toArray, List.set_cons_zero, List.set_cons_succ]
            refine wpAnyH_takeD (i := 16) (d := 13) (v := ?vq13a) rfl rfl (by kernel_rfl) (by kernel_rfl) (by kernel_rfl) (fun _ _ _ h => h) (Or.inl ⟨by rfl, ?yq13a⟩) (by assumption) ?rq13a
            case yq13a => (intro w hSw; (try dsimp only at hSw); go_simp <;> with_reducible rfl)
            try simp only [Act.put, List.setIfInBounds_toArray, List.set_cons_zero, List.set_cons_succ]
            refine wpAnyH_done (by kernel_rfl) ?_ _
            go_wp2_with fail
            go_meet
            exact ⟨_, rfl, rfl, Lib.hid ⟨qa, qn, qk, bx_new hta.out, below_al (hkeep2.2.2.2) _⟩⟩
      · go_simp
        refine hK.out _ _ (sd3 HP0a.out HP1a.out HP2a.out (below_al (hkeep.2.2.2) _)) (fun hHeld => ?_)
        clear hK K
        try simp only [Act.put, List.setIfInBounds_toArray, List.set_cons_zero, List.set_cons_succ]
        refine wpAnyH_ready (rs := [10]) (by kernel_rfl) (by simp) ?_
        refine AllReadyH.cons rfl (fun K hK => ?_) AllReadyH.nil
        · go_simp
          go_wp2_with (go_at_call 11; (with_reducible refine (HSTAa.out _ _ hka hkeep).mono ?_); rintro e w2 ⟨qa, qn, qk, rfl, hta, hkeep2, hz2, hge2, ⟨z0, z1, z2, z3, z4, z5, z6, z7, z8, z9⟩, ⟨y0, y1, y2, y3, y4, y5, y6, y7, y8, y9⟩⟩)
          refine hK.out _ _ hkeep2 (fun hHeld => ?_)
          clear hK K
          try simp only [Act.put, List.setIfInBounds_toArray, List.set_cons_zero, List.set_cons_succ]
          refine wpAnyH_takeD (i := 11) (d := 72) (v := ?vq14a) rfl rfl (by kernel_rfl) (by kernel_rfl) (by kernel_rfl) (fun _ _ _ h => h) (Or.inl ⟨by rfl, ?yq14a⟩) (by assumption) ?rq14a
          case yq14a => (intro w hSw; (try dsimp only at hSw); go_simp <;> with_reducible rfl)
          try simp only [Act.put, List.setIfInBounds_toArray, List.set_cons_zero, List.set_cons_succ]
          refine wpAnyH_takeD (i := 12) (d := 84) (v := ?vq15a) rfl rfl (by kernel_rfl) (by kernel_rfl) (by kernel_rfl) (fun _ _ _ h => h) (Or.inl ⟨by rfl, ?yq15a⟩) (by assumption) ?rq15a
          case yq15a => (intro w hSw; (try dsimp only at hSw); go_simp <;> with_reducible rfl)
          try simp only [Act.put, List.setIfInBounds_toArray, List.set_cons_zero, List.set_cons_succ]
          refine wpAnyH_takeD (i := 13) (d := 85) (v := ?vq16a) rfl rfl (by kernel_rfl) (by kernel_rfl) (by kernel_rfl) (fun _ _ _ h => h) (Or.inl ⟨by rfl, ?yq16a⟩) (by assumption) ?rq16a
          case yq16a => (intro w hSw; (try dsimp only at hSw); go_simp <;> with_reducible rfl)
          try simp only [Act.put, List.setIfInBounds_toArray, List.set_cons_zero, List.set_cons_succ]
          refine wpAnyH_ready (rs := [15]) (by kernel_rfl) (by simp) ?_
          refine AllReadyH.cons rfl (fun K hK => ?_) AllReadyH.nil
          · clear hka hkeep hHeld
            go_simp
            refine hK.out _ _ (sd3 HP0a.out HP1a.out HP2a.out (below_set10 (hkeep2.2.2.2) hge2.out _ _ _ _ _ _ _ _ _ _)) (fun hHeld => ?_)
            clear hK K
            try simp only [Act.put, List.setIfInBounds_toArray, List.set_cons_zero, List.set_cons_succ]
            refine wpAnyH_takeD (i := 16) (d := 13) (v := ?vq17a) rfl rfl (by kernel_rfl) (by kernel_rfl) (by kernel_rfl) (fun _ _ _ h => h) (Or.inl ⟨by rfl, ?yq17a⟩) (by assumption) ?rq17a
            case yq17a => (intro w hSw; (try dsimp only at hSw); go_simp <;> with_reducible rfl)
            try simp only [Act.put, List.setIfInBounds_toArray, List.set_cons_zero, List.set_cons_succ]
            refine wpAnyH_done (by kernel_rfl) ?_ _
            go_wp2_with fail
            have hq := cv_stored (.int .i64 C.id) (.string (T C.proto)) (.int .i64 C.role) (.int .i64 C.phase) (.int .i64 C.step) ((.slice qa qn qk)) (.string (T C.own)) (.string (T C.peer)) (.string (T C.user)) (.int .i64 C.err) hz2.out.1
            go_meet
            exact ⟨_, rfl, rfl, Lib.hid ⟨qa, qn, qk, ⟨hq.1, hta.out.grown hq.2 hz2.out.2⟩, below_set10 (hkeep2.2.2.2) hge2.out _ _ _ _ _ _ _ _ _ _⟩⟩
    · go_simp
      refine hK.out _ _ (sd3 HP0a.out HP1a.out HP2a.out (below_al below_drew0 _)) (fun hHeld => ?_)
      clear hK K
      try simp only [Act.put, List.setIfInBounds_toArray, List.set_cons_zero, List.set_cons_succ]
      refine wpAnyH_ready (rs := [8]) (by kernel_rfl) (by simp) ?_
      refine AllReadyH.cons rfl (fun K hK => ?_) AllReadyH.nil
      · go_simp
        go_wp2_with (go_at_call 12; (with_reducible refine HKYAa.out.mono ?_); rintro e w1 ⟨gk, rfl, hka, hkeep, hzk⟩)
        refine hK.out _ _ hkeep (fun hHeld => ?_)
        clear hK K
        try simp only [Act.put, List.setIfInBounds_toArray, List.set_cons_zero, List.set_cons_succ]
        refine wpAnyH_ready (rs := [10]) (by kernel_rfl) (by simp) ?_
        refine AllReadyH.cons rfl (fun K hK => ?_) AllReadyH.nil
        · go_simp
          go_wp2_with (go_at_call 11; (with_reducible refine (HSTZa.out _ _ _ hka hzk.out HGEa.out hkeep).mono ?_); rintro e w2 ⟨qa, qn, qk, rfl, hta, hkeep2, hz2, hge2, ⟨z0, z1, z2, z3, z4, z5, z6, z7, z8, z9⟩, ⟨y0, y1, y2, y3, y4, y5, y6, y7, y8, y9⟩⟩)
          refine hK.out _ _ hkeep2 (fun hHeld => ?_)
          clear hK K
          try simp only [Act.put, List.setIfInBounds_toArray, List.set_cons_zero, List.set_cons_succ]
          refine wpAnyH_takeD (i := 11) (d := 72) (v := ?vq18a) rfl rfl (by kernel_rfl) (by kernel_rfl) (by kernel_rfl) (fun _ _ _ h => h) (Or.inl ⟨by rfl, ?yq18a⟩) (by assumption) ?rq18a
          case yq18a => (intro w hSw; (try dsimp only at hSw); go_simp <;> with_reducible rfl)
          try simp only [Act.put, List.setIfInBounds_toArray, List.set_cons_zero, List.set_cons_succ]
          refine wpAnyH_takeD (i := 12) (d := 84) (v := ?vq19a) rfl rfl (by kernel_rfl) (by kernel_rfl) (by kernel_rfl) (fun _ _ _ h => h) (Or.inl ⟨by rfl, ?yq19a⟩) (by assumption) ?rq19a
          case yq19a => (intro w hSw; (try dsimp only at hSw); go_simp <;> with_reducible rfl)
          try simp only [Act.put, List.setIfInBounds_toArray, List.set_cons_zero, List.set_cons_succ]
          refine wpAnyH_takeD (i := 13) (d := 85) (v := ?vq20a) rfl rfl (by kernel_rfl) (by kernel_rfl) (by kernel_rfl) (fun _ _ _ h => h) (Or.inl ⟨by rfl, ?yq20a⟩) (by assumption) ?rq20a
          case yq20a => (intro w hSw; (try dsimp only at hSw); go_simp <;> with_reducible rfl)
          try simp only [Act.put, List.setIfInBounds_toArray, List.set_cons_zero, List.set_cons_succ]
          refine wpAnyH_ready (rs := [15]) (by kernel_rfl) (by simp) ?_
          refine AllReadyH.cons rfl (fun K hK => ?_) AllReadyH.nil
          · clear hka hkeep hHeld
            go_simp
            refine hK.out _ _ (sd3 HP0a.out HP1a.out HP2a.out (below_set10 (hkeep2.2.2.2) hge2.out _ _ _ _ _ _ _ _ _ _)) (fun hHeld => ?_)
            clear hK K
            try simp only [Act.put, List.setIfInBounds_toArray, List.set_cons_zero, List.set_cons_succ]
            refine wpAnyH_takeD (i := 16) (d := 13) (v := ?vq21a) rfl rfl (by kernel_rfl) (by kernel_rfl) (by kernel_rfl) (fun _ _ _ h => h) (Or.inl ⟨by rfl, ?yq21a⟩) (by assumption) ?rq21a
            case yq21a => (intro w hSw; (try dsimp only at hSw); go_simp <;> with_reducible rfl)
            try simp only [Act.put, List.setIfInBounds_toArray, List.set_cons_zero, List.set_cons_succ]
            refine wpAnyH_done (by kernel_rfl) ?_ _
            go_wp2_with fail
            have hq := cv_stored (.int .i64 C.id) (.string (T C.proto)) (.int .i64 C.role) (.int .i64 C.phase) (.int .i64 C.step) ((.slice qa qn qk)) (.string (T C.own)) (.string (T C.peer)) (.string (T C.user)) (.int .i64 C.err) hz2.out.1
            go_meet
            exact ⟨_, rfl, rfl, Lib.hid ⟨qa, qn, qk, ⟨hq.1, hta.out.grown hq.2 hz2.out.2⟩, below_set10 (hkeep2.2.2.2) hge2.out _ _ _ _ _ _ _ _ _ _⟩⟩
  case rest =>
  obtain ⟨gb, rfl, rfl, hbx⟩ := hcut
  obtain ⟨ba, bn, bk, hx, hb⟩ := hbx.out
  clear hbx HSD0a HKYa HSTa HSTZa HKYAa HSTAa HGEa
  generalize wc = Va at *
  have HXa := Lib.hid hx
  have HBWa := Lib.hid hb
  clear hx hb HP0a HP1a HP2a
  generalize gb = gc at *
  generalize ba = ca at *
  generalize bn = cm at *
  generalize bk = ck at *
  go_upto_region 5 with fail
  have HP0b := Lib.hid (hPj.out pb Va (HPS.out.below HBWa.out))
  have HP1b := Lib.hid (HM.out _ (bnext HBW2.out HBWa.out)).2.2.1
  have HP2b := Lib.hid (HM.out _ (bnext HBW2.out HBWa.out)).2.2.2
  go_upto_region 5 with fail
  have HSD0b := Lib.hid (sd3 HP0b.out HP1b.out HP2b.out (below_drew0 (w := Va)))
  have HKYZb := Lib.hid (fun (W' : World) (g0 : Nat) (h : W'.cell? ⟨pb, j, none⟩ = some (.string (T P)) ∧ W'.cell? ⟨w.heap.size + 1, 0, none⟩ = some (.string (T u2)) ∧ W'.cell? ⟨w.heap.size + 1, 1, none⟩ = some (.string (T s2)) ∧ Below Va.heap.size Va W') (hz : W'.heap[g0]? = some (.cells #[.int .i64 0, .string (T []), .int .i64 0, .int .i64 0, .int .i64 0, .slice none 0 0, .string (T []), .string (T []), .string (T []), .int .i64 0] 28 (0, 0))) => (key_any u2 s2 W').mono fun e w' h' => (⟨W'.heap.size, h'.1, h'.2.1, sd3 HP0b.out HP1b.out HP2b.out (bnext (h.2.2.2) h'.2.2), Lib.hid ((h'.2.2.block _ (row_ltA hz)).trans hz)⟩ : ∃ g, e = .returned (.slice (some ⟨g, 0, none⟩) 2 2) ∧ Atts w' (.slice (some ⟨g, 0, none⟩) 2 2) (lkey u2 s2) ∧ (w'.cell? ⟨pb, j, none⟩ = some (.string (T P)) ∧ w'.cell? ⟨w.heap.size + 1, 0, none⟩ = some (.string (T u2)) ∧ w'.cell? ⟨w.heap.size + 1, 1, none⟩ = some (.string (T s2)) ∧ Below Va.heap.size Va w') ∧ Hid (w'.heap[g0]? = some (.cells #[.int .i64 0, .string (T []), .int .i64 0, .int .i64 0, .int .i64 0, .slice none 0 0, .string (T []), .string (T []), .string (T []), .int .i64 0] 28 (0, 0)))))
  have HKYb := Lib.hid (fun (W' : World) (h : W'.cell? ⟨pb, j, none⟩ = some (.string (T P)) ∧ W'.cell? ⟨w.heap.size + 1, 0, none⟩ = some (.string (T u2)) ∧ W'.cell? ⟨w.heap.size + 1, 1, none⟩ = some (.string (T s2)) ∧ Below Va.heap.size Va W') => (key_any u2 s2 W').mono fun e w' h' => (⟨W'.heap.size, h'.1, h'.2.1, sd3 HP0b.out HP1b.out HP2b.out (bnext (h.2.2.2) h'.2.2)⟩ : ∃ g, e = .returned (.slice (some ⟨g, 0, none⟩) 2 2) ∧ Atts w' (.slice (some ⟨g, 0, none⟩) 2 2) (lkey u2 s2) ∧ (w'.cell? ⟨pb, j, none⟩ = some (.string (T P)) ∧ w'.cell? ⟨w.heap.size + 1, 0, none⟩ = some (.string (T u2)) ∧ w'.cell? ⟨w.heap.size + 1, 1, none⟩ = some (.string (T s2)) ∧ Below Va.heap.size Va w')))
  have HSTb := Lib.hid (fun (W' : World) (v : Value) (hk : Atts W' v (lkey u2 s2)) (h : W'.cell? ⟨pb, j, none⟩ = some (.string (T P)) ∧ W'.cell? ⟨w.heap.size + 1, 0, none⟩ = some (.string (T u2)) ∧ W'.cell? ⟨w.heap.size + 1, 1, none⟩ = some (.string (T s2)) ∧ Below Va.heap.size Va W') => (HSD.out W' v hk).mono fun e w' h' => (by obtain ⟨a, n, k, h1, h2, h3, h4⟩ := h'; exact ⟨a, n, k, h1, Lib.hid h2, sd3 HP0b.out HP1b.out HP2b.out (bnext (h.2.2.2) h4)⟩ : ∃ a n k, e = .returned (.tuple #[.agg #[.int .i64 D.id, .string (T D.proto), .int .i64 D.role, .int .i64 D.phase, .int .i64 D.step, (.slice a n k), .string (T D.own), .string (T D.peer), .string (T D.user), .int .i64 D.err], .int .i64 fr]) ∧ Hid (Atts w' (.slice a n k) D.key) ∧ (w'.cell? ⟨pb, j, none⟩ = some (.string (T P)) ∧ w'.cell? ⟨w.heap.size + 1, 0, none⟩ = some (.string (T u2)) ∧ w'.cell? ⟨w.heap.size + 1, 1, none⟩ = some (.string (T s2)) ∧ Below Va.heap.size Va w')))
  have HSTZb := Lib.hid (fun (W' : World) (v : Value) (g0 : Nat) (hk : Atts W' v (lkey u2 s2)) (hz : W'.heap[g0]? = some (.cells #[.int .i64 0, .string (T []), .int .i64 0, .int .i64 0, .int .i64 0, .slice none 0 0, .string (T []), .string (T []), .string (T []), .int .i64 0] 28 (0, 0))) (hge : Va.heap.size ≤ g0) (h : W'.cell? ⟨pb, j, none⟩ = some (.string (T P)) ∧ W'.cell? ⟨w.heap.size + 1, 0, none⟩ = some (.string (T u2)) ∧ W'.cell? ⟨w.heap.size + 1, 1, none⟩ = some (.string (T s2)) ∧ Below Va.heap.size Va W') => (HSD.out W' v hk).mono fun e w' h' => (by obtain ⟨a, n, k, h1, h2, h3, h4⟩ := h'; exact ⟨a, n, k, h1, Lib.hid h2, sd3 HP0b.out HP1b.out HP2b.out (bnext (h.2.2.2) h4), Lib.hid ⟨(h4.block _ (row_ltA hz)).trans hz, fun q hq => (by have := h3 q hq; have := row_ltA hz; omega)⟩, Lib.hid hge, cv_readsZ ((h4.block _ (row_ltA hz)).trans hz)⟩ : ∃ a n k, e = .returned (.tuple #[.agg #[.int .i64 D.id, .string (T D.proto), .int .i64 D.role, .int .i64 D.phase, .int .i64 D.step, (.slice a n k), .string (T D.own), .string (T D.peer), .string (T D.user), .int .i64 D.err], .int .i64 fr]) ∧ Hid (Atts w' (.slice a n k) D.key) ∧ (w'.cell? ⟨pb, j, none⟩ = some (.string (T P)) ∧ w'.cell? ⟨w.heap.size + 1, 0, none⟩ = some (.string (T u2)) ∧ w'.cell? ⟨w.heap.size + 1, 1, none⟩ = some (.string (T s2)) ∧ Below Va.heap.size Va w') ∧ Hid (w'.heap[g0]? = some (.cells #[.int .i64 0, .string (T []), .int .i64 0, .int .i64 0, .int .i64 0, .slice none 0 0, .string (T []), .string (T []), .string (T []), .int .i64 0] 28 (0, 0)) ∧ ∀ q, a = some q → q.block ≠ g0) ∧ Hid (Va.heap.size ≤ g0) ∧ (w'.cell? ⟨g0, 0, none⟩ = some (.int .i64 0) ∧ w'.cell? ⟨g0, 1, none⟩ = some (.string (T [])) ∧ w'.cell? ⟨g0, 2, none⟩ = some (.int .i64 0) ∧ w'.cell? ⟨g0, 3, none⟩ = some (.int .i64 0) ∧ w'.cell? ⟨g0, 4, none⟩ = some (.int .i64 0) ∧ w'.cell? ⟨g0, 5, none⟩ = some (.slice none 0 0) ∧ w'.cell? ⟨g0, 6, none⟩ = some (.string (T [])) ∧ w'.cell? ⟨g0, 7, none⟩ = some (.string (T [])) ∧ w'.cell? ⟨g0, 8, none⟩ = some (.string (T [])) ∧ w'.cell? ⟨g0, 9, none⟩ = some (.int .i64 0)) ∧ (w'.frozen? ⟨g0, 0, none⟩ = false ∧ w'.frozen? ⟨g0, 1, none⟩ = false ∧ w'.frozen? ⟨g0, 2, none⟩ = false ∧ w'.frozen? ⟨g0, 3, none⟩ = false ∧ w'.frozen? ⟨g0, 4, none⟩ = false ∧ w'.frozen? ⟨g0, 5, none⟩ = false ∧ w'.frozen? ⟨g0, 6, none⟩ = false ∧ w'.frozen? ⟨g0, 7, none⟩ = false ∧ w'.frozen? ⟨g0, 8, none⟩ = false ∧ w'.frozen? ⟨g0, 9, none⟩ = false)))
  have HKYAb := Lib.hid (HKYZb.out ((Va.alloc (.cells #[.int .i64 0, .string (T []), .int .i64 0, .int .i64 0, .int .i64 0, .slice none 0 0, .string (T []), .string (T []), .string (T []), .int .i64 0] 28)).drew) Va.heap.size (sd3 HP0b.out HP1b.out HP2b.out (below_drew1 (below_al (Below.refl _ _) _))) (heap_alloc_new Va _))
  have HSTAb := Lib.hid (fun (W' : World) (v : Value) (hk : Atts W' v (lkey u2 s2)) (h : W'.cell? ⟨pb, j, none⟩ = some (.string (T P)) ∧ W'.cell? ⟨w.heap.size + 1, 0, none⟩ = some (.string (T u2)) ∧ W'.cell? ⟨w.heap.size + 1, 1, none⟩ = some (.string (T s2)) ∧ Below Va.heap.size Va W') => HSTZb.out (W'.alloc (.cells #[.int .i64 0, .string (T []), .int .i64 0, .int .i64 0, .int .i64 0, .slice none 0 0, .string (T []), .string (T []), .string (T []), .int .i64 0] 28)) v W'.heap.size (hk.below (below_al (Below.refl _ _) _)) (heap_alloc_new W' _) (h.2.2.2).size (sd3 HP0b.out HP1b.out HP2b.out (below_al (h.2.2.2) _)))
  have HGEb := Lib.hid (Nat.le_refl Va.heap.size)
  clear HKYZb
  go_cut [14, 15] (fun p q w' => ∃ g, p = .pointer (some ⟨g, 0, none⟩) ∧ q = .int .i64 fr ∧ Hid (∃ ao n k, Bx w' g D ao n k ∧ Below Va.heap.size Va w'))
  case first =>
    repeat (rename (∀ (a : Act) (w : World), Code.wp _ _ _ a w → _) => ax; clear ax)
    refine wp_region_held_drew (S := (fun W' => W'.cell? ⟨pb, j, none⟩ = some (.string (T P)) ∧ W'.cell? ⟨w.heap.size + 1, 0, none⟩ = some (.string (T u2)) ∧ W'.cell? ⟨w.heap.size + 1, 1, none⟩ = some (.string (T s2)) ∧ Below Va.heap.size Va W')) (by kernel_rfl) HSD0b.out (fun hHeld => ?_)
    refine wpAnyH_takeD (i := 0) (d := 87) (v := ?vq22b) rfl rfl (by kernel_rfl) (by kernel_rfl) (by kernel_rfl) (fun _ _ _ h => h) (Or.inl ⟨by rfl, ?yq22b⟩) (by assumption) ?rq22b
    case yq22b => (intro w hSw; (try dsimp only at hSw); go_simp <;> with_reducible rfl)
    try simp only [Act.put, List.setIfInBounds_toArray, List.set_cons_zero, List.set_cons_succ]
    refine wpAnyH_takeD (i := 1) (d := 88) (v := ?vq23b) rfl rfl (by kernel_rfl) (by kernel_rfl) (by kernel_rfl) (fun _ _ _ h => h) (Or.inl ⟨by rfl, ?yq23b⟩) (by assumption) ?rq23b
    case yq23b => (intro w hSw; (try dsimp only at hSw); go_simp <;> with_reducible rfl)
    try simp only [Act.put, List.setIfInBounds_toArray, List.set_cons_zero, List.set_cons_succ]
    refine wpAnyH_takeD (i := 2) (d := 89) (v := ?vq24b) rfl rfl (by kernel_rfl) (by kernel_rfl) (by kernel_rfl) (fun _ _ _ h => h) (Or.inl ⟨by rfl, ?yq24b⟩) (by assumption) ?rq24b
    case yq24b => (intro w hSw; (try dsimp only at hSw); go_simp <;> with_reducible rfl)
    try simp only [Act.put, List.setIfInBounds_toArray, List.set_cons_zero, List.set_cons_succ]
    refine wpAnyH_takeD (i := 3) (d := 90) (v := ?vq25b) rfl rfl (by kernel_rfl) (by kernel_rfl) (by kernel_rfl) (fun _ _ _ h => h) (Or.inl ⟨by rfl, ?yq25b⟩) (by assumption) ?rq25b
    case yq25b => (intro w hSw; (try dsimp only at hSw); go_simp <;> with_reducible rfl)
    try simp only [Act.put, List.setIfInBounds_toArray, List.set_cons_zero, List.set_cons_succ]
    refine wpAnyH_takeD (i := 4) (d := 91) (v := ?vq26b) rfl rfl (by kernel_rfl) (by kernel_rfl) (by kernel_rfl) (fun _ _ _ h => h) (Or.inl ⟨by rfl, ?yq26b⟩) (by assumption) ?rq26b
    case yq26b => (intro w hSw; (try dsimp only at hSw); go_simp <;> with_reducible rfl)
    try simp only [Act.put, List.setIfInBounds_toArray, List.set_cons_zero, List.set_cons_succ]
    refine wpAnyH_takeD (i := 5) (d := 92) (v := ?vq27b) rfl rfl (by kernel_rfl) (by kernel_rfl) (by kernel_rfl) (fun _ _ _ h => h) (Or.inl ⟨by rfl, ?yq27b⟩) (by assumption) ?rq27b
    case yq27b => (intro w hSw; (try dsimp only at hSw); go_simp <;> with_reducible rfl)
    try simp only [Act.put, List.setIfInBounds_toArray, List.set_cons_zero, List.set_cons_succ]
    refine wpAnyH_takeD (i := 6) (d := 93) (v := ?vq28b) rfl rfl (by kernel_rfl) (by kernel_rfl) (by kernel_rfl) (fun _ _ _ h => h) (Or.inl ⟨by rfl, ?yq28b⟩) (by assumption) ?rq28b
    case yq28b => (intro w hSw; (try dsimp only at hSw); go_simp <;> with_reducible rfl)
    try simp only [Act.put, List.setIfInBounds_toArray, List.set_cons_zero, List.set_cons_succ]
    refine wpAnyH_takeD (i := 7) (d := 94) (v := ?vq29b) rfl rfl (by kernel_rfl) (by kernel_rfl) (by kernel_rfl) (fun _ _ _ h => h) (Or.inl ⟨by rfl, ?yq29b⟩) (by assumption) ?rq29b
    case yq29b => (intro w hSw; (try dsimp only at hSw); go_simp <;> with_reducible rfl)
    try simp only [Act.put, List.setIfInBounds_toArray, List.set_cons_zero, List.set_cons_succ]
    refine wpAnyH_takeD (i := 9) (d := 96) (v := ?vq30b) rfl rfl (by kernel_rfl) (by kernel_rfl) (by kernel_rfl) (fun _ _ _ h => h) (Or.inl ⟨by rfl, ?yq30b⟩) (by assumption) ?rq30b
    case yq30b => (intro w hSw; (try dsimp only at hSw); go_simp <;> with_reducible rfl)
    try simp only [Act.put, List.setIfInBounds_toArray, List.set_cons_zero, List.set_cons_succ]
    refine wpAnyH_ready (rs := [8, 14]) (by kernel_rfl) (by simp) ?_
    refine AllReadyH.cons rfl (fun K hK => ?_) (AllReadyH.cons rfl (fun K hK => ?_) AllReadyH.nil)
    · go_simp
      go_wp2_with (go_at_call 12; (with_reducible refine (HKYb.out _ HSD0b.out).mono ?_); rintro e w1 ⟨gk, rfl, hka, hkeep⟩)
      refine hK.out _ _ hkeep (fun hHeld => ?_)
      clear hK K
      try simp only [Act.put, List.setIfInBounds_toArray, List.set_cons_zero, List.set_cons_succ]
      refine wpAnyH_ready (rs := [10, 14]) (by kernel_rfl) (by simp) ?_
      refine AllReadyH.cons rfl (fun K hK => ?_) (AllReadyH.cons rfl (fun K hK => ?_) AllReadyH.nil)
      · go_simp
        go_wp2_with (go_at_call 11; (with_reducible refine (HSTb.out _ _ hka hkeep).mono ?_); rintro e w2 ⟨qa, qn, qk, rfl, hta, hkeep2⟩)
        refine hK.out _ _ hkeep2 (fun hHeld => ?_)
        clear hK K
        try simp only [Act.put, List.setIfInBounds_toArray, List.set_cons_zero, List.set_cons_succ]
        refine wpAnyH_takeD (i := 11) (d := 86) (v := ?vq31b) rfl rfl (by kernel_rfl) (by kernel_rfl) (by kernel_rfl) (fun _ _ _ h => h) (Or.inl ⟨by rfl, ?yq31b⟩) (by assumption) ?rq31b
        case yq31b => (intro w hSw; (try dsimp only at hSw); go_simp <;> with_reducible rfl)
        try simp only [Act.put, List.setIfInBounds_toArray, List.set_cons_zero, List.set_cons_succ]
        refine wpAnyH_takeD (i := 12) (d := 98) (v := ?vq32b) rfl rfl (by kernel_rfl) (by kernel_rfl) (by kernel_rfl) (fun _ _ _ h => h) (Or.inl ⟨by rfl, ?yq32b⟩) (by assumption) ?rq32b
        case yq32b => (intro w hSw; (try dsimp only at hSw); go_simp <;> with_reducible rfl)
        try simp only [Act.put, List.setIfInBounds_toArray, List.set_cons_zero, List.set_cons_succ]
        refine wpAnyH_takeD (i := 13) (d := 99) (v := ?vq33b) rfl rfl (by kernel_rfl) (by kernel_rfl) (by kernel_rfl) (fun _ _ _ h => h) (Or.inl ⟨by rfl, ?yq33b⟩) (by assumption) ?rq33b
        case yq33b => (intro w hSw; (try dsimp only at hSw); go_simp <;> with_reducible rfl)
        try simp only [Act.put, List.setIfInBounds_toArray, List.set_cons_zero, List.set_cons_succ]
        refine wpAnyH_ready (rs := [14]) (by kernel_rfl) (by simp) ?_
        refine AllReadyH.cons rfl (fun K hK => ?_) AllReadyH.nil
        · clear hka hkeep hHeld
          go_simp
          refine hK.out _ _ (sd3 HP0b.out HP1b.out HP2b.out (below_al (hkeep2.2.2.2) _)) (fun hHeld => ?_)
          clear hK K
          try simp only [Act.put, List.setIfInBounds_toArray, List.set_cons_zero, List.set_cons_succ]
          refine wpAnyH_ready (rs := [15]) (by kernel_rfl) (by simp) ?_
          refine AllReadyH.cons rfl (fun K hK => ?_) AllReadyH.nil
          · go_simp
            refine hK.out _ _ (sd3 HP0b.out HP1b.out HP2b.out (below_al (hkeep2.2.2.2) _)) (fun hHeld => ?_)
            clear hK K
            try simp only [Act.put, List.setIfInBounds_toArray, List.set_cons_zero, List.set_cons_succ]
            refine wpAnyH_takeD (i := 16) (d := 15) (v := ?vq34b) rfl rfl (by kernel_rfl) (by kernel_rfl) (by kernel_rfl) (fun _ _ _ h => h) (Or.inl ⟨by rfl, ?yq34b⟩) (by assumption) ?rq34b
            case yq34b => (intro w hSw; (try dsimp only at hSw); go_simp <;> with_reducible rfl)
            try simp only [Act.put, List.setIfInBounds_toArray, List.set_cons_zero, List.set_cons_succ]
            refine wpAnyH_done (by kernel_rfl) ?_ _
            go_wp2_with fail
            go_meet
            exact ⟨_, rfl, rfl, Lib.hid ⟨qa, qn, qk, bx_new hta.out, below_al (hkeep2.2.2.2) _⟩⟩
      · go_simp
        refine hK.out _ _ (sd3 HP0b.out HP1b.out HP2b.out (below_al (hkeep.2.2.2) _)) (fun hHeld => ?_)
        clear hK K
        try simp only [Act.put, List.setIfInBounds_toArray, List.set_cons_zero, List.set_cons_succ]
        refine wpAnyH_ready (rs := [10]) (by kernel_rfl) (by simp) ?_
        refine AllReadyH.cons rfl (fun K hK => ?_) AllReadyH.nil
        · go_simp
          go_wp2_with (go_at_call 11; (with_reducible refine (HSTAb.out _ _ hka hkeep).mono ?_); rintro e w2 ⟨qa, qn, qk, rfl, hta, hkeep2, hz2, hge2, ⟨z0, z1, z2, z3, z4, z5, z6, z7, z8, z9⟩, ⟨y0, y1, y2, y3, y4, y5, y6, y7, y8, y9⟩⟩)
          refine hK.out _ _ hkeep2 (fun hHeld => ?_)
          clear hK K
          try simp only [Act.put, List.setIfInBounds_toArray, List.set_cons_zero, List.set_cons_succ]
          refine wpAnyH_takeD (i := 11) (d := 86) (v := ?vq35b) rfl rfl (by kernel_rfl) (by kernel_rfl) (by kernel_rfl) (fun _ _ _ h => h) (Or.inl ⟨by rfl, ?yq35b⟩) (by assumption) ?rq35b
          case yq35b => (intro w hSw; (try dsimp only at hSw); go_simp <;> with_reducible rfl)
          try simp only [Act.put, List.setIfInBounds_toArray, List.set_cons_zero, List.set_cons_succ]
          refine wpAnyH_takeD (i := 12) (d := 98) (v := ?vq36b) rfl rfl (by kernel_rfl) (by kernel_rfl) (by kernel_rfl) (fun _ _ _ h => h) (Or.inl ⟨by rfl, ?yq36b⟩) (by assumption) ?rq36b
          case yq36b => (intro w hSw; (try dsimp only at hSw); go_simp <;> with_reducible rfl)
          try simp only [Act.put, List.setIfInBounds_toArray, List.set_cons_zero, List.set_cons_succ]
          refine wpAnyH_takeD (i := 13) (d := 99) (v := ?vq37b) rfl rfl (by kernel_rfl) (by kernel_rfl) (by kernel_rfl) (fun _ _ _ h => h) (Or.inl ⟨by rfl, ?yq37b⟩) (by assumption) ?rq37b
          case yq37b => (intro w hSw; (try dsimp only at hSw); go_simp <;> with_reducible rfl)
          try simp only [Act.put, List.setIfInBounds_toArray, List.set_cons_zero, List.set_cons_succ]
          refine wpAnyH_ready (rs := [15]) (by kernel_rfl) (by simp) ?_
          refine AllReadyH.cons rfl (fun K hK => ?_) AllReadyH.nil
          · clear hka hkeep hHeld
            go_simp
            refine hK.out _ _ (sd3 HP0b.out HP1b.out HP2b.out (below_set10 (hkeep2.2.2.2) hge2.out _ _ _ _ _ _ _ _ _ _)) (fun hHeld => ?_)
            clear hK K
            try simp only [Act.put, List.setIfInBounds_toArray, List.set_cons_zero, List.set_cons_succ]
            refine wpAnyH_takeD (i := 16) (d := 15) (v := ?vq38b) rfl rfl (by kernel_rfl) (by kernel_rfl) (by kernel_rfl) (fun _ _ _ h => h) (Or.inl ⟨by rfl, ?yq38b⟩) (by assumption) ?rq38b
            case yq38b => (intro w hSw; (try dsimp only at hSw); go_simp <;> with_reducible rfl)
            try simp only [Act.put, List.setIfInBounds_toArray, List.set_cons_zero, List.set_cons_succ]
            refine wpAnyH_done (by kernel_rfl) ?_ _
            go_wp2_with fail
            have hq := cv_stored (.int .i64 D.id) (.string (T D.proto)) (.int .i64 D.role) (.int .i64 D.phase) (.int .i64 D.step) ((.slice qa qn qk)) (.string (T D.own)) (.string (T D.peer)) (.string (T D.user)) (.int .i64 D.err) hz2.out.1
            go_meet
            exact ⟨_, rfl, rfl, Lib.hid ⟨qa, qn, qk, ⟨hq.1, hta.out.grown hq.2 hz2.out.2⟩, below_set10 (hkeep2.2.2.2) hge2.out _ _ _ _ _ _ _ _ _ _⟩⟩
    · go_simp
      refine hK.out _ _ (sd3 HP0b.out HP1b.out HP2b.out (below_al below_drew0 _)) (fun hHeld => ?_)
      clear hK K
      try simp only [Act.put, List.setIfInBounds_toArray, List.set_cons_zero, List.set_cons_succ]
      refine wpAnyH_ready (rs := [8]) (by kernel_rfl) (by simp) ?_
      refine AllReadyH.cons rfl (fun K hK => ?_) AllReadyH.nil
      · go_simp
        go_wp2_with (go_at_call 12; (with_reducible refine HKYAb.out.mono ?_); rintro e w1 ⟨gk, rfl, hka, hkeep, hzk⟩)
        refine hK.out _ _ hkeep (fun hHeld => ?_)
        clear hK K
        try simp only [Act.put, List.setIfInBounds_toArray, List.set_cons_zero, List.set_cons_succ]
        refine wpAnyH_ready (rs := [10]) (by kernel_rfl) (by simp) ?_
        refine AllReadyH.cons rfl (fun K hK => ?_) AllReadyH.nil
        · go_simp
          go_wp2_with (go_at_call 11; (with_reducible refine (HSTZb.out _ _ _ hka hzk.out HGEb.out hkeep).mono ?_); rintro e w2 ⟨qa, qn, qk, rfl, hta, hkeep2, hz2, hge2, ⟨z0, z1, z2, z3, z4, z5, z6, z7, z8, z9⟩, ⟨y0, y1, y2, y3, y4, y5, y6, y7, y8, y9⟩⟩)
          refine hK.out _ _ hkeep2 (fun hHeld => ?_)
          clear hK K
          try simp only [Act.put, List.setIfInBounds_toArray, List.set_cons_zero, List.set_cons_succ]
          refine wpAnyH_takeD (i := 11) (d := 86) (v := ?vq39b) rfl rfl (by kernel_rfl) (by kernel_rfl) (by kernel_rfl) (fun _ _ _ h => h) (Or.inl ⟨by rfl, ?yq39b⟩) (by assumption) ?rq39b
          case yq39b => (intro w hSw; (try dsimp only at hSw); go_simp <;> with_reducible rfl)
          try simp only [Act.put, List.setIfInBounds_toArray, List.set_cons_zero, List.set_cons_succ]
          refine wpAnyH_takeD (i := 12) (d := 98) (v := ?vq40b) rfl rfl (by kernel_rfl) (by kernel_rfl) (by kernel_rfl) (fun _ _ _ h => h) (Or.inl ⟨by rfl, ?yq40b⟩) (by assumption) ?rq40b
          case yq40b => (intro w hSw; (try dsimp only at hSw); go_simp <;> with_reducible rfl)
          try simp only [Act.put, List.setIfInBounds_toArray, List.set_cons_zero, List.set_cons_succ]
          refine wpAnyH_takeD (i := 13) (d := 99) (v := ?vq41b) rfl rfl (by kernel_rfl) (by kernel_rfl) (by kernel_rfl) (fun _ _ _ h => h) (Or.inl ⟨by rfl, ?yq41b⟩) (by assumption) ?rq41b
          case yq41b => (intro w hSw; (try dsimp only at hSw); go_simp <;> with_reducible rfl)
          try simp only [Act.put, List.setIfInBounds_toArray, List.set_cons_zero, List.set_cons_succ]
          refine wpAnyH_ready (rs := [15]) (by kernel_rfl) (by simp) ?_
          refine AllReadyH.cons rfl (fun K hK => ?_) AllReadyH.nil
          · clear hka hkeep hHeld
            go_simp
            refine hK.out _ _ (sd3 HP0b.out HP1b.out HP2b.out (below_set10 (hkeep2.2.2.2) hge2.out _ _ _ _ _ _ _ _ _ _)) (fun hHeld => ?_)
            clear hK K
            try simp only [Act.put, List.setIfInBounds_toArray, List.set_cons_zero, List.set_cons_succ]
            refine wpAnyH_takeD (i := 16) (d := 15) (v := ?vq42b) rfl rfl (by kernel_rfl) (by kernel_rfl) (by kernel_rfl) (fun _ _ _ h => h) (Or.inl ⟨by rfl, ?yq42b⟩) (by assumption) ?rq42b
            case yq42b => (intro w hSw; (try dsimp only at hSw); go_simp <;> with_reducible rfl)
            try simp only [Act.put, List.setIfInBounds_toArray, List.set_cons_zero, List.set_cons_succ]
            refine wpAnyH_done (by kernel_rfl) ?_ _
            go_wp2_with fail
            have hq := cv_stored (.int .i64 D.id) (.string (T D.proto)) (.int .i64 D.role) (.int .i64 D.phase) (.int .i64 D.step) ((.slice qa qn qk)) (.string (T D.own)) (.string (T D.peer)) (.string (T D.user)) (.int .i64 D.err) hz2.out.1
            go_meet
            exact ⟨_, rfl, rfl, Lib.hid ⟨qa, qn, qk, ⟨hq.1, hta.out.grown hq.2 hz2.out.2⟩, below_set10 (hkeep2.2.2.2) hge2.out _ _ _ _ _ _ _ _ _ _⟩⟩
  case rest =>
  obtain ⟨gb, rfl, rfl, hbx⟩ := hcut
  obtain ⟨ba, bn, bk, hx, hb⟩ := hbx.out
  clear hbx HSD0b HKYb HSTb HSTZb HKYAb HSTAb HGEb
  generalize wc = Vb at *
  have HXb := Lib.hid hx
  have HBWb := Lib.hid hb
  clear hx hb HP0b HP1b HP2b
  generalize gb = gd at *
  generalize ba = da at *
  generalize bn = dm at *
  generalize bk = dk at *
  by_cases he : er = 0
  rotate_left
  · have g1 : (er != 0) = true := by rw [bne_iff_ne]; exact he
    clear he
    go_wp2_with fail
    (with_reducible refine (HAL.out _ (bnext (bnext (bnext HB0.out HBW2.out) HBWa.out) HBWb.out)).mono ?_); rintro e v3 ⟨rfl, hbz⟩
    have HBW4 := Lib.hid (hbz)
    clear hbz
    have HE := Lib.hid (bnext (bnext (bnext (bnext HB0.out HBW2.out) HBWa.out) HBWb.out) HBW4.out)
    go_wp2_with fail
    go_ret
    exact ⟨rfl, HE.out⟩
  by_cases hf : fr = 0
  rotate_left
  · have g1 : (er != 0) = false := by rw [he]; rfl
    have g2 : (fr != 0) = true := by rw [bne_iff_ne]; exact hf
    clear he hf
    go_wp2_with fail
    (with_reducible refine (HAL.out _ (bnext (bnext (bnext HB0.out HBW2.out) HBWa.out) HBWb.out)).mono ?_); rintro e v3 ⟨rfl, hbz⟩
    have HBW4 := Lib.hid (hbz)
    clear hbz
    have HE := Lib.hid (bnext (bnext (bnext (bnext HB0.out HBW2.out) HBWa.out) HBWb.out) HBW4.out)
    go_wp2_with fail
    go_ret
    exact ⟨rfl, HE.out⟩
  subst he hf
  obtain ⟨hfc, hsc, _⟩ := Au.start_lk_fine HC.out
  obtain ⟨hfd, hsd, _⟩ := Au.start_lk_fine HD.out
  obtain ⟨A, B, r, hr1, hw1, hw2, hka, hkb⟩ := Au.wrong_run HC.out HD.out HNE.out
  obtain ⟨ua, oka, hd1⟩ : ∃ x y, Au.done A = (x, y) := ⟨_, _, rfl⟩
  obtain ⟨ub, okb, hd2⟩ : ∃ x y, Au.done B = (x, y) := ⟨_, _, rfl⟩
  rw [hd2] at hw1 hw2
  rw [hd1] at hw2
  have HRN := Lib.hid (fun ao bo m cp n dp (W : World) (h : Atts W (.slice ao m cp) C.key) (h2 : Atts W (.slice bo n dp) D.key) (hk : KIn W) => run_bx C D A B r hr1 ao bo m cp n dp W h h2 hfc hfd (by omega) (by omega) hk)
  have HDA := Lib.hid (fun ao m cp (W : World) => done_bx A _ _ hd1 ao m cp W)
  have HDB := Lib.hid (fun ao m cp (W : World) => done_bx B _ _ hd2 ao m cp W)
  have HW1 := Lib.hid (show u ≠ u2 → okb = false from hw1)
  have HW2 := Lib.hid (show u = u2 → (okb = false ∧ (oka = false ∨ P ≠ Au.sMutual)) ∨ Au.equal P s s2 cn sn = true from hw2)
  clear hfc hsc hfd hsd hr1 hd1 hd2 hka hkb HC HD HSC HSD hw1 hw2
  obtain ⟨⟨x0, x1, x2, x3, x4, x5, x6, x7, x8, x9⟩, _⟩ := cv_reads (Bx.row (HXa.out.next HBWb.out))
  obtain ⟨⟨y0, y1, y2, y3, y4, y5, y6, y7, y8, y9⟩, _⟩ := cv_reads (Bx.row (HXb.out.next (Below.refl _ _)))
  go_wp2_with fail
  (with_reducible refine (HRN.out _ _ _ _ _ _ _ (Bx.att (HXa.out.next HBWb.out)) (Bx.att (HXb.out.next (Below.refl _ _))) (HKI.out _ (bnext (bnext (bnext HB0.out HBW2.out) HBWa.out) HBWb.out))).mono ?_); rintro e v3 ⟨a1, a2, a3, b1, b2, b3, rfl, hta, htb, hbl⟩
  clear x0 x1 x2 x3 x4 x5 x6 x7 x8 x9 y0 y1 y2 y3 y4 y5 y6 y7 y8 y9
  have HBW4 := Lib.hid (hbl)
  clear hbl
  have HTA := Lib.hid hta
  have HTB := Lib.hid htb
  clear hta htb
  go_upto_region 9 with fail
  have hx5 := bx_two (A := A) (B := B) HTA.out HTB.out
  generalize World.alloc _ _ = V5 at *
  have HX5 := Lib.hid hx5.1
  have HY5 := Lib.hid hx5.2.1
  have HBV5 := Lib.hid hx5.2.2
  clear hx5 HTA HTB
  obtain ⟨⟨x0, x1, x2, x3, x4, x5, x6, x7, x8, x9⟩, _⟩ := cv_reads (Bx.row (HX5.out.next (Below.refl _ _)))
  go_wp2_with fail
  (with_reducible refine (HDA.out _ _ _ _).mono ?_); rintro e v6 ⟨rfl, hbl⟩
  clear x0 x1 x2 x3 x4 x5 x6 x7 x8 x9
  have HBW7 := Lib.hid (hbl)
  clear hbl
  go_upto_region 10 with fail
  obtain ⟨⟨x0, x1, x2, x3, x4, x5, x6, x7, x8, x9⟩, _⟩ := cv_reads (Bx.row (HY5.out.next HBW7.out))
  go_wp2_with fail
  (with_reducible refine (HDB.out _ _ _ _).mono ?_); rintro e v8 ⟨rfl, hbl⟩
  clear x0 x1 x2 x3 x4 x5 x6 x7 x8 x9
  have HBW9 := Lib.hid (hbl)
  clear hbl
  go_upto_region 11 with fail
  obtain ⟨m0, m1, m2, m3⟩ := HM.out _ (bnext (bnext (bnext (bnext (bnext (bnext HBW2.out HBWa.out) HBWb.out) HBW4.out) HBV5.out) HBW7.out) HBW9.out)
  by_cases huu : u = u2
  rotate_left
  · obtain rfl : okb = false := HW1.out huu
    have e1 : (u == u2) = false := seq_no huu
    clear huu
    go_wp2_with fail
    (with_reducible refine (HAL.out _ (bnext (bnext (bnext (bnext (bnext (bnext (bnext HB0.out HBW2.out) HBWa.out) HBWb.out) HBW4.out) HBV5.out) HBW7.out) HBW9.out)).mono ?_); rintro e v10 ⟨rfl, hbz⟩
    have HBW11 := Lib.hid (hbz)
    clear hbz
    have HE := Lib.hid (bnext (bnext (bnext (bnext (bnext (bnext (bnext (bnext HB0.out HBW2.out) HBWa.out) HBWb.out) HBW4.out) HBV5.out) HBW7.out) HBW9.out) HBW11.out)
    go_wp2_with fail
    go_ret
    exact ⟨rfl, HE.out⟩
  have e1 : (u == u2) = true := seq_yes huu
  have hw2 := HW2.out huu
  clear huu
  go_upto_region 13 with fail
  clear m0 m1 m2 m3
  have HP0z := Lib.hid (hPj.out pb v8 (HPS.out.below (bnext (bnext (bnext (bnext (bnext HBWa.out HBWb.out) HBW4.out) HBV5.out) HBW7.out) HBW9.out)))
  have HP1z := Lib.hid (HM.out _ (bnext (bnext (bnext (bnext (bnext (bnext HBW2.out HBWa.out) HBWb.out) HBW4.out) HBV5.out) HBW7.out) HBW9.out)).2.1
  have HP2z := Lib.hid (HM.out _ (bnext (bnext (bnext (bnext (bnext (bnext HBW2.out HBWa.out) HBWb.out) HBW4.out) HBV5.out) HBW7.out) HBW9.out)).2.2.2
  have HBV := Lib.hid (bnext (bnext (bnext (bnext (bnext (bnext (bnext HB0.out HBW2.out) HBWa.out) HBWb.out) HBW4.out) HBV5.out) HBW7.out) HBW9.out)
  have HEQ := Lib.hid (fun (W : World) (h : W.cell? ⟨pb, j, none⟩ = some (.string (T P)) ∧ W.cell? ⟨w.heap.size, 1, none⟩ = some (.string (T s)) ∧ W.cell? ⟨w.heap.size + 1, 1, none⟩ = some (.string (T s2)) ∧ Below v8.heap.size v8 W) => (HEQ0.out W).mono fun e w' h' => (⟨h'.1, sd3 HP0z.out HP1z.out HP2z.out (bnext h.2.2.2 h'.2)⟩ : e = .returned (.bool (Au.equal P s s2 cn sn)) ∧ (w'.cell? ⟨pb, j, none⟩ = some (.string (T P)) ∧ w'.cell? ⟨w.heap.size, 1, none⟩ = some (.string (T s)) ∧ w'.cell? ⟨w.heap.size + 1, 1, none⟩ = some (.string (T s2)) ∧ Below v8.heap.size v8 w')))
  have HAW := Lib.hid (fun (W : World) (h : W.cell? ⟨pb, j, none⟩ = some (.string (T P)) ∧ W.cell? ⟨w.heap.size, 1, none⟩ = some (.string (T s)) ∧ W.cell? ⟨w.heap.size + 1, 1, none⟩ = some (.string (T s2)) ∧ Below v8.heap.size v8 W) => (HAL.out W (bnext HBV.out h.2.2.2)).mono fun e w' h' => (⟨h'.1, sd3 HP0z.out HP1z.out HP2z.out (bnext h.2.2.2 h'.2)⟩ : e = .returned (.bool true) ∧ (w'.cell? ⟨pb, j, none⟩ = some (.string (T P)) ∧ w'.cell? ⟨w.heap.size, 1, none⟩ = some (.string (T s)) ∧ w'.cell? ⟨w.heap.size + 1, 1, none⟩ = some (.string (T s2)) ∧ Below v8.heap.size v8 w')))
  have HSD0 := Lib.hid (sd3 HP0z.out HP1z.out HP2z.out (below_drew0 (w := v8)))
  have HFI := Lib.hid (fun (W : World) (h : W.cell? ⟨pb, j, none⟩ = some (.string (T P)) ∧ W.cell? ⟨w.heap.size, 1, none⟩ = some (.string (T s)) ∧ W.cell? ⟨w.heap.size + 1, 1, none⟩ = some (.string (T s2)) ∧ Below v8.heap.size v8 W) => bnext HBV.out h.2.2.2)
  clear HAL HEQ0 HM HPS hPj HW1 HW2
  generalize Au.equal P s s2 cn sn = eqv at *
  cases okb with
  | true =>
    obtain rfl : eqv = true := by
      rcases hw2 with ⟨h, _⟩ | h
      · cases h
      · exact h
    clear hw2
    go_upto_region 13 with fail
    refine wp_region_held_drew (S := (fun W' => W'.cell? ⟨pb, j, none⟩ = some (.string (T P)) ∧ W'.cell? ⟨w.heap.size, 1, none⟩ = some (.string (T s)) ∧ W'.cell? ⟨w.heap.size + 1, 1, none⟩ = some (.string (T s2)) ∧ Below v8.heap.size v8 W')) (by kernel_rfl) HSD0.out (fun hHeld => ?_)
    refine wpAnyH_takeD (i := 0) (d := 134) (v := ?ka0) rfl rfl (by kernel_rfl) (by kernel_rfl) (by kernel_rfl) (fun _ _ _ h => h) (Or.inl ⟨by rfl, ?yka0⟩) (by assumption) ?rka0
    case yka0 => (intro w hSw; (try dsimp only at hSw); go_simp <;> with_reducible rfl)
    try simp only [Act.put, List.setIfInBounds_toArray, List.set_cons_zero, List.set_cons_succ]
    refine wpAnyH_takeD (i := 1) (d := 135) (v := ?ka1) rfl rfl (by kernel_rfl) (by kernel_rfl) (by kernel_rfl) (fun _ _ _ h => h) (Or.inl ⟨by rfl, ?yka1⟩) (by assumption) ?rka1
    case yka1 => (intro w hSw; (try dsimp only at hSw); go_simp <;> with_reducible rfl)
    try simp only [Act.put, List.setIfInBounds_toArray, List.set_cons_zero, List.set_cons_succ]
    refine wpAnyH_takeD (i := 2) (d := 136) (v := ?ka2) rfl rfl (by kernel_rfl) (by kernel_rfl) (by kernel_rfl) (fun _ _ _ h => h) (Or.inl ⟨by rfl, ?yka2⟩) (by assumption) ?rka2
    case yka2 => (intro w hSw; (try dsimp only at hSw); go_simp <;> with_reducible rfl)
    try simp only [Act.put, List.setIfInBounds_toArray, List.set_cons_zero, List.set_cons_succ]
    refine wpAnyH_skips (by kernel_rfl) (fun _ _ _ _ h => h) (by assumption) [(3, 137), (4, 138), (5, 139), (6, 140), (7, 141), (8, 142), (9, 143), (10, 144), (11, 145)] 18 _ _ _ rfl (by kernel_rfl) ?_
    simp only [skipAct, skipListed, Act.put, List.setIfInBounds_toArray, List.set_cons_zero, List.set_cons_succ]
    refine wpAnyH_takeD (i := 12) (d := 146) (v := ?ka12) rfl rfl (by kernel_rfl) (by kernel_rfl) (by kernel_rfl) (fun _ _ _ h => h) (Or.inl ⟨by rfl, ?yka12⟩) (by assumption) ?rka12
    case yka12 => (intro w hSw; (try dsimp only at hSw); go_simp <;> with_reducible rfl)
    try simp only [Act.put, List.setIfInBounds_toArray, List.set_cons_zero, List.set_cons_succ]
    refine wpAnyH_takeD (i := 13) (d := 147) (v := ?ka13) rfl rfl (by kernel_rfl) (by kernel_rfl) (by kernel_rfl) (fun _ _ _ h => h) (Or.inl ⟨by rfl, ?yka13⟩) (by assumption) ?rka13
    case yka13 => (intro w hSw; (try dsimp only at hSw); go_simp <;> with_reducible rfl)
    try simp only [Act.put, List.setIfInBounds_toArray, List.set_cons_zero, List.set_cons_succ]
    refine wpAnyH_takeD (i := 14) (d := 148) (v := ?ka14) rfl rfl (by kernel_rfl) (by kernel_rfl) (by kernel_rfl) (fun _ _ _ h => h) (Or.inl ⟨by rfl, ?yka14⟩) (by assumption) ?rka14
    case yka14 => (intro w hSw; (try dsimp only at hSw); go_simp <;> with_reducible rfl)
    try simp only [Act.put, List.setIfInBounds_toArray, List.set_cons_zero, List.set_cons_succ]
    refine wpAnyH_takeD (i := 15) (d := 149) (v := ?ka15) rfl rfl (by kernel_rfl) (by kernel_rfl) (by kernel_rfl) (fun _ _ _ h => h) (Or.inl ⟨by rfl, ?yka15⟩) (by assumption) ?rka15
    case yka15 => (intro w hSw; (try dsimp only at hSw); go_simp <;> with_reducible rfl)
    try simp only [Act.put, List.setIfInBounds_toArray, List.set_cons_zero, List.set_cons_succ]
    refine wpAnyH_takeD (i := 16) (d := 150) (v := ?ka16) rfl rfl (by kernel_rfl) (by kernel_rfl) (by kernel_rfl) (fun _ _ _ h => h) (Or.inl ⟨by rfl, ?yka16⟩) (by assumption) ?rka16
    case yka16 => (intro w hSw; (try dsimp only at hSw); go_simp <;> with_reducible rfl)
    try simp only [Act.put, List.setIfInBounds_toArray, List.set_cons_zero, List.set_cons_succ]
    refine wpAnyH_takeD (i := 17) (d := 151) (v := ?ka17) rfl rfl (by kernel_rfl) (by kernel_rfl) (by kernel_rfl) (fun _ _ _ h => h) (Or.inl ⟨by rfl, ?yka17⟩) (by assumption) ?rka17
    case yka17 => (intro w hSw; (try dsimp only at hSw); go_simp <;> with_reducible rfl)
    try simp only [Act.put, List.setIfInBounds_toArray, List.set_cons_zero, List.set_cons_succ]
    refine wpAnyH_takeD (i := 18) (d := 152) (v := ?ka18) rfl rfl (by kernel_rfl) (by kernel_rfl) (by kernel_rfl) (fun _ _ _ h => h) (Or.inl ⟨by rfl, ?yka18⟩) (by assumption) ?rka18
    case yka18 => (intro w hSw; (try dsimp only at hSw); go_simp <;> with_reducible rfl)
    try simp only [Act.put, List.setIfInBounds_toArray, List.set_cons_zero, List.set_cons_succ]
    refine wpAnyH_takeD (i := 19) (d := 153) (v := ?ka19) rfl rfl (by kernel_rfl) (by kernel_rfl) (by kernel_rfl) (fun _ _ _ h => h) (Or.inl ⟨by rfl, ?yka19⟩) (by assumption) ?rka19
    case yka19 => (intro w hSw; (try dsimp only at hSw); go_simp <;> with_reducible rfl)
    try simp only [Act.put, List.setIfInBounds_toArray, List.set_cons_zero, List.set_cons_succ]
    refine wpAnyH_takeD (i := 20) (d := 154) (v := ?ka20) rfl rfl (by kernel_rfl) (by kernel_rfl) (by kernel_rfl) (fun _ _ _ h => h) (Or.inl ⟨by rfl, ?yka20⟩) (by assumption) ?rka20
    case yka20 => (intro w hSw; (try dsimp only at hSw); go_simp <;> with_reducible rfl)
    try simp only [Act.put, List.setIfInBounds_toArray, List.set_cons_zero, List.set_cons_succ]
    refine wpAnyH_takeD (i := 21) (d := 155) (v := ?ka21) rfl rfl (by kernel_rfl) (by kernel_rfl) (by kernel_rfl) (fun _ _ _ h => h) (Or.inl ⟨by rfl, ?yka21⟩) (by assumption) ?rka21
    case yka21 => (intro w hSw; (try dsimp only at hSw); go_simp <;> with_reducible rfl)
    try simp only [Act.put, List.setIfInBounds_toArray, List.set_cons_zero, List.set_cons_succ]
    refine wpAnyH_takeD (i := 22) (d := 156) (v := ?ka22) rfl rfl (by kernel_rfl) (by kernel_rfl) (by kernel_rfl) (fun _ _ _ h => h) (Or.inl ⟨by rfl, ?yka22⟩) (by assumption) ?rka22
    case yka22 => (intro w hSw; (try dsimp only at hSw); go_simp <;> with_reducible rfl)
    try simp only [Act.put, List.setIfInBounds_toArray, List.set_cons_zero, List.set_cons_succ]
    refine wpAnyH_takeD (i := 23) (d := 157) (v := ?ka23) rfl rfl (by kernel_rfl) (by kernel_rfl) (by kernel_rfl) (fun _ _ _ h => h) (Or.inl ⟨by rfl, ?yka23⟩) (by assumption) ?rka23
    case yka23 => (intro w hSw; (try dsimp only at hSw); go_simp <;> with_reducible rfl)
    try simp only [Act.put, List.setIfInBounds_toArray, List.set_cons_zero, List.set_cons_succ]
    refine wpAnyH_ready (rs := [24]) (by kernel_rfl) (by simp) ?_
    refine AllReadyH.cons rfl (fun K hK => ?_) AllReadyH.nil
    go_simp
    go_wp2_with (go_at_call 16; (with_reducible refine (HEQ.out _ hHeld).mono ?_); rintro e wx ⟨rfl, hkeep⟩)
    refine hK.out _ _ hkeep (fun hHeld => ?_)
    clear hK K
    try simp only [Act.put, List.setIfInBounds_toArray, List.set_cons_zero, List.set_cons_succ]
    refine wpAnyH_takeD (i := 25) (d := 159) (v := ?ka25) rfl rfl (by kernel_rfl) (by kernel_rfl) (by kernel_rfl) (fun _ _ _ h => h) (Or.inl ⟨by rfl, ?yka25⟩) (by assumption) ?rka25
    case yka25 => (intro w hSw; (try dsimp only at hSw); go_simp <;> with_reducible rfl)
    try simp only [Act.put, List.setIfInBounds_toArray, List.set_cons_zero, List.set_cons_succ]
    refine wpAnyH_takeD (i := 26) (d := 160) (v := ?ka26) rfl rfl (by kernel_rfl) (by kernel_rfl) (by kernel_rfl) (fun _ _ _ h => h) (Or.inl ⟨by rfl, ?yka26⟩) (by assumption) ?rka26
    case yka26 => (intro w hSw; (try dsimp only at hSw); go_simp <;> with_reducible rfl)
    try simp only [Act.put, List.setIfInBounds_toArray, List.set_cons_zero, List.set_cons_succ]
    refine wpAnyH_ready (rs := [27]) (by kernel_rfl) (by simp) ?_
    refine AllReadyH.cons rfl (fun K hK => ?_) AllReadyH.nil
    go_simp
    go_wp2_with (go_at_call 10; (with_reducible refine (HAW.out _ hHeld).mono ?_); rintro e wx ⟨rfl, hkeep⟩)
    refine hK.out _ _ hkeep (fun hHeld => ?_)
    clear hK K
    try simp only [Act.put, List.setIfInBounds_toArray, List.set_cons_zero, List.set_cons_succ]
    refine wpAnyH_takeD (i := 28) (d := 162) (v := ?ka28) rfl rfl (by kernel_rfl) (by kernel_rfl) (by kernel_rfl) (fun _ _ _ h => h) (Or.inl ⟨by rfl, ?yka28⟩) (by assumption) ?rka28
    case yka28 => (intro w hSw; (try dsimp only at hSw); go_simp <;> with_reducible rfl)
    try simp only [Act.put, List.setIfInBounds_toArray, List.set_cons_zero, List.set_cons_succ]
    refine wpAnyH_takeD (i := 29) (d := 10) (v := ?ka29) rfl rfl (by kernel_rfl) (by kernel_rfl) (by kernel_rfl) (fun _ _ _ h => h) (Or.inl ⟨by rfl, ?yka29⟩) (by assumption) ?rka29
    case yka29 => (intro w hSw; (try dsimp only at hSw); go_simp <;> with_reducible rfl)
    try simp only [Act.put, List.setIfInBounds_toArray, List.set_cons_zero, List.set_cons_succ]
    refine wpAnyH_done (by kernel_rfl) ?_ _
    have HE := Lib.hid (HFI.out _ hHeld)
    go_wp2_with fail
    go_ret
    exact ⟨rfl, HE.out⟩
  | false =>
    cases oka with
    | false =>
      clear hw2
      go_upto_region 13 with fail
      refine wp_region_held_drew (S := (fun W' => W'.cell? ⟨pb, j, none⟩ = some (.string (T P)) ∧ W'.cell? ⟨w.heap.size, 1, none⟩ = some (.string (T s)) ∧ W'.cell? ⟨w.heap.size + 1, 1, none⟩ = some (.string (T s2)) ∧ Below v8.heap.size v8 W')) (by kernel_rfl) HSD0.out (fun hHeld => ?_)
      refine wpAnyH_takeD (i := 0) (d := 134) (v := ?kb0) rfl rfl (by kernel_rfl) (by kernel_rfl) (by kernel_rfl) (fun _ _ _ h => h) (Or.inl ⟨by rfl, ?ykb0⟩) (by assumption) ?rkb0
      case ykb0 => (intro w hSw; (try dsimp only at hSw); go_simp <;> with_reducible rfl)
      try simp only [Act.put, List.setIfInBounds_toArray, List.set_cons_zero, List.set_cons_succ]
      refine wpAnyH_takeD (i := 1) (d := 135) (v := ?kb1) rfl rfl (by kernel_rfl) (by kernel_rfl) (by kernel_rfl) (fun _ _ _ h => h) (Or.inl ⟨by rfl, ?ykb1⟩) (by assumption) ?rkb1
      case ykb1 => (intro w hSw; (try dsimp only at hSw); go_simp <;> with_reducible rfl)
      try simp only [Act.put, List.setIfInBounds_toArray, List.set_cons_zero, List.set_cons_succ]
      refine wpAnyH_takeD (i := 2) (d := 136) (v := ?kb2) rfl rfl (by kernel_rfl) (by kernel_rfl) (by kernel_rfl) (fun _ _ _ h => h) (Or.inl ⟨by rfl, ?ykb2⟩) (by assumption) ?rkb2
      case ykb2 => (intro w hSw; (try dsimp only at hSw); go_simp <;> with_reducible rfl)
      try simp only [Act.put, List.setIfInBounds_toArray, List.set_cons_zero, List.set_cons_succ]
      refine wpAnyH_takeD (i := 3) (d := 137) (v := ?kb3) rfl rfl (by kernel_rfl) (by kernel_rfl) (by kernel_rfl) (fun _ _ _ h => h) (Or.inl ⟨by rfl, ?ykb3⟩) (by assumption) ?rkb3
      case ykb3 => (intro w hSw; (try dsimp only at hSw); go_simp <;> with_reducible rfl)
      try simp only [Act.put, List.setIfInBounds_toArray, List.set_cons_zero, List.set_cons_succ]
      refine wpAnyH_takeD (i := 4) (d := 138) (v := ?kb4) rfl rfl (by kernel_rfl) (by kernel_rfl) (by kernel_rfl) (fun _ _ _ h => h) (Or.inl ⟨by rfl, ?ykb4⟩) (by assumption) ?rkb4
      case ykb4 => (intro w hSw; (try dsimp only at hSw); go_simp <;> with_reducible rfl)
      try simp only [Act.put, List.setIfInBounds_toArray, List.set_cons_zero, List.set_cons_succ]
      refine wpAnyH_takeD (i := 5) (d := 139) (v := ?kb5) rfl rfl (by kernel_rfl) (by kernel_rfl) (by kernel_rfl) (fun _ _ _ h => h) (Or.inl ⟨by rfl, ?ykb5⟩) (by assumption) ?rkb5
      case ykb5 => (intro w hSw; (try dsimp only at hSw); go_simp <;> with_reducible rfl)
      try simp only [Act.put, List.setIfInBounds_toArray, List.set_cons_zero, List.set_cons_succ]
      refine wpAnyH_skips (by kernel_rfl) (fun _ _ _ _ h => h) (by assumption) [(6, 140), (7, 141), (8, 142), (9, 143), (10, 144)] 19 _ _ _ rfl (by kernel_rfl) ?_
      simp only [skipAct, skipListed, Act.put, List.setIfInBounds_toArray, List.set_cons_zero, List.set_cons_succ]
      refine wpAnyH_takeD (i := 11) (d := 145) (v := ?kb11) rfl rfl (by kernel_rfl) (by kernel_rfl) (by kernel_rfl) (fun _ _ _ h => h) (Or.inl ⟨by rfl, ?ykb11⟩) (by assumption) ?rkb11
      case ykb11 => (intro w hSw; (try dsimp only at hSw); go_simp <;> with_reducible rfl)
      try simp only [Act.put, List.setIfInBounds_toArray, List.set_cons_zero, List.set_cons_succ]
      refine wpAnyH_takeD (i := 12) (d := 146) (v := ?kb12) rfl rfl (by kernel_rfl) (by kernel_rfl) (by kernel_rfl) (fun _ _ _ h => h) (Or.inl ⟨by rfl, ?ykb12⟩) (by assumption) ?rkb12
      case ykb12 => (intro w hSw; (try dsimp only at hSw); go_simp <;> with_reducible rfl)
      try simp only [Act.put, List.setIfInBounds_toArray, List.set_cons_zero, List.set_cons_succ]
      refine wpAnyH_takeD (i := 13) (d := 147) (v := ?kb13) rfl rfl (by kernel_rfl) (by kernel_rfl) (by kernel_rfl) (fun _ _ _ h => h) (Or.inl ⟨by rfl, ?ykb13⟩) (by assumption) ?rkb13
      case ykb13 => (intro w hSw; (try dsimp only at hSw); go_simp <;> with_reducible rfl)
      try simp only [Act.put, List.setIfInBounds_toArray, List.set_cons_zero, List.set_cons_succ]
      refine wpAnyH_skips (by kernel_rfl) (fun _ _ _ _ h => h) (by assumption) [(14, 148), (15, 149), (16, 150), (17, 151), (18, 152), (19, 153), (20, 154), (21, 155), (22, 156), (23, 157), (24, 158)] 5 _ _ _ rfl (by kernel_rfl) ?_
      simp only [skipAct, skipListed, Act.put, List.setIfInBounds_toArray, List.set_cons_zero, List.set_cons_succ]
      refine wpAnyH_takeD (i := 25) (d := 159) (v := ?kb25) rfl rfl (by kernel_rfl) (by kernel_rfl) (by kernel_rfl) (fun _ _ _ h => h) (Or.inl ⟨by rfl, ?ykb25⟩) (by assumption) ?rkb25
      case ykb25 => (intro w hSw; (try dsimp only at hSw); go_simp <;> with_reducible rfl)
      try simp only [Act.put, List.setIfInBounds_toArray, List.set_cons_zero, List.set_cons_succ]
      refine wpAnyH_takeD (i := 26) (d := 160) (v := ?kb26) rfl rfl (by kernel_rfl) (by kernel_rfl) (by kernel_rfl) (fun _ _ _ h => h) (Or.inl ⟨by rfl, ?ykb26⟩) (by assumption) ?rkb26
      case ykb26 => (intro w hSw; (try dsimp only at hSw); go_simp <;> with_reducible rfl)
      try simp only [Act.put, List.setIfInBounds_toArray, List.set_cons_zero, List.set_cons_succ]
      refine wpAnyH_ready (rs := [27]) (by kernel_rfl) (by simp) ?_
      refine AllReadyH.cons rfl (fun K hK => ?_) AllReadyH.nil
      go_simp
      go_wp2_with (go_at_call 10; (with_reducible refine (HAW.out _ hHeld).mono ?_); rintro e wx ⟨rfl, hkeep⟩)
      refine hK.out _ _ hkeep (fun hHeld => ?_)
      clear hK K
      try simp only [Act.put, List.setIfInBounds_toArray, List.set_cons_zero, List.set_cons_succ]
      refine wpAnyH_takeD (i := 28) (d := 162) (v := ?kb28) rfl rfl (by kernel_rfl) (by kernel_rfl) (by kernel_rfl) (fun _ _ _ h => h) (Or.inl ⟨by rfl, ?ykb28⟩) (by assumption) ?rkb28
      case ykb28 => (intro w hSw; (try dsimp only at hSw); go_simp <;> with_reducible rfl)
      try simp only [Act.put, List.setIfInBounds_toArray, List.set_cons_zero, List.set_cons_succ]
      refine wpAnyH_takeD (i := 29) (d := 10) (v := ?kb29) rfl rfl (by kernel_rfl) (by kernel_rfl) (by kernel_rfl) (fun _ _ _ h => h) (Or.inl ⟨by rfl, ?ykb29⟩) (by assumption) ?rkb29
      case ykb29 => (intro w hSw; (try dsimp only at hSw); go_simp <;> with_reducible rfl)
      try simp only [Act.put, List.setIfInBounds_toArray, List.set_cons_zero, List.set_cons_succ]
      refine wpAnyH_done (by kernel_rfl) ?_ _
      have HE := Lib.hid (HFI.out _ hHeld)
      go_wp2_with fail
      go_ret
      exact ⟨rfl, HE.out⟩
    | true =>
      by_cases hpm : P = Au.sMutual
      rotate_left
      · have e2 : (P == [109, 117, 116, 117, 97, 108]) = false := seq_no hpm
        clear hw2 hpm
        go_upto_region 13 with fail
        refine wp_region_held_drew (S := (fun W' => W'.cell? ⟨pb, j, none⟩ = some (.string (T P)) ∧ W'.cell? ⟨w.heap.size, 1, none⟩ = some (.string (T s)) ∧ W'.cell? ⟨w.heap.size + 1, 1, none⟩ = some (.string (T s2)) ∧ Below v8.heap.size v8 W')) (by kernel_rfl) HSD0.out (fun hHeld => ?_)
        refine wpAnyH_takeD (i := 0) (d := 134) (v := ?kc0) rfl rfl (by kernel_rfl) (by kernel_rfl) (by kernel_rfl) (fun _ _ _ h => h) (Or.inl ⟨by rfl, ?ykc0⟩) (by assumption) ?rkc0
        case ykc0 => (intro w hSw; (try dsimp only at hSw); go_simp <;> with_reducible rfl)
        try simp only [Act.put, List.setIfInBounds_toArray, List.set_cons_zero, List.set_cons_succ]
        refine wpAnyH_takeD (i := 1) (d := 135) (v := ?kc1) rfl rfl (by kernel_rfl) (by kernel_rfl) (by kernel_rfl) (fun _ _ _ h => h) (Or.inl ⟨by rfl, ?ykc1⟩) (by assumption) ?rkc1
        case ykc1 => (intro w hSw; (try dsimp only at hSw); go_simp <;> with_reducible rfl)
        try simp only [Act.put, List.setIfInBounds_toArray, List.set_cons_zero, List.set_cons_succ]
        refine wpAnyH_takeD (i := 2) (d := 136) (v := ?kc2) rfl rfl (by kernel_rfl) (by kernel_rfl) (by kernel_rfl) (fun _ _ _ h => h) (Or.inl ⟨by rfl, ?ykc2⟩) (by assumption) ?rkc2
        case ykc2 => (intro w hSw; (try dsimp only at hSw); go_simp <;> with_reducible rfl)
        try simp only [Act.put, List.setIfInBounds_toArray, List.set_cons_zero, List.set_cons_succ]
        refine wpAnyH_takeD (i := 3) (d := 137) (v := ?kc3) rfl rfl (by kernel_rfl) (by kernel_rfl) (by kernel_rfl) (fun _ _ _ h => h) (Or.inl ⟨by rfl, ?ykc3⟩) (by assumption) ?rkc3
        case ykc3 => (intro w hSw; (try dsimp only at hSw); go_simp <;> with_reducible rfl)
        try simp only [Act.put, List.setIfInBounds_toArray, List.set_cons_zero, List.set_cons_succ]
        refine wpAnyH_takeD (i := 4) (d := 138) (v := ?kc4) rfl rfl (by kernel_rfl) (by kernel_rfl) (by kernel_rfl) (fun _ _ _ h => h) (Or.inl ⟨by rfl, ?ykc4⟩) (by assumption) ?rkc4
        case ykc4 => (intro w hSw; (try dsimp only at hSw); go_simp <;> with_reducible rfl)
        try simp only [Act.put, List.setIfInBounds_toArray, List.set_cons_zero, List.set_cons_succ]
        refine wpAnyH_takeD (i := 5) (d := 139) (v := ?kc5) rfl rfl (by kernel_rfl) (by kernel_rfl) (by kernel_rfl) (fun _ _ _ h => h) (Or.inl ⟨by rfl, ?ykc5⟩) (by assumption) ?rkc5
        case ykc5 => (intro w hSw; (try dsimp only at hSw); go_simp <;> with_reducible rfl)
        try simp only [Act.put, List.setIfInBounds_toArray, List.set_cons_zero, List.set_cons_succ]
        refine wpAnyH_takeD (i := 6) (d := 140) (v := ?kc6) rfl rfl (by kernel_rfl) (by kernel_rfl) (by kernel_rfl) (fun _ _ _ h => h) (Or.inl ⟨by rfl, ?ykc6⟩) (by assumption) ?rkc6
        case ykc6 => (intro w hSw; (try dsimp only at hSw); go_simp <;> with_reducible rfl)
        try simp only [Act.put, List.setIfInBounds_toArray, List.set_cons_zero, List.set_cons_succ]
        refine wpAnyH_takeD (i := 7) (d := 141) (v := ?kc7) rfl rfl (by kernel_rfl) (by kernel_rfl) (by kernel_rfl) (fun _ _ _ h => h) (Or.inl ⟨by rfl, ?ykc7⟩) (by assumption) ?rkc7
        case ykc7 => (intro w hSw; (try dsimp only at hSw); go_simp <;> with_reducible rfl)
        try simp only [Act.put, List.setIfInBounds_toArray, List.set_cons_zero, List.set_cons_succ]
        refine wpAnyH_takeD (i := 8) (d := 142) (v := ?kc8) rfl rfl (by kernel_rfl) (by kernel_rfl) (by kernel_rfl) (fun _ _ _ h => h) (Or.inl ⟨by rfl, ?ykc8⟩) (by assumption) ?rkc8
        case ykc8 => (intro w hSw; (try dsimp only at hSw); go_simp <;> with_reducible rfl)
        try simp only [Act.put, List.setIfInBounds_toArray, List.set_cons_zero, List.set_cons_succ]
        refine wpAnyH_takeD (i := 9) (d := 143) (v := ?kc9) rfl rfl (by kernel_rfl) (by kernel_rfl) (by kernel_rfl) (fun _ _ _ h => h) (Or.inl ⟨by rfl, ?ykc9⟩) (by assumption) ?rkc9
        case ykc9 => (intro w hSw; (try dsimp only at hSw); go_simp <;> with_reducible rfl)
        try simp only [Act.put, List.setIfInBounds_toArray, List.set_cons_zero, List.set_cons_succ]
        refine wpAnyH_takeD (i := 10) (d := 144) (v := ?kc10) rfl rfl (by kernel_rfl) (by kernel_rfl) (by kernel_rfl) (fun _ _ _ h => h) (Or.inl ⟨by rfl, ?ykc10⟩) (by assumption) ?rkc10
        case ykc10 => (intro w hSw; (try dsimp only at hSw); go_simp <;> with_reducible rfl)
        try simp only [Act.put, List.setIfInBounds_toArray, List.set_cons_zero, List.set_cons_succ]
        refine wpAnyH_takeD (i := 11) (d := 145) (v := ?kc11) rfl rfl (by kernel_rfl) (by kernel_rfl) (by kernel_rfl) (fun _ _ _ h => h) (Or.inl ⟨by rfl, ?ykc11⟩) (by assumption) ?rkc11
        case ykc11 => (intro w hSw; (try dsimp only at hSw); go_simp <;> with_reducible rfl)
        try simp only [Act.put, List.setIfInBounds_toArray, List.set_cons_zero, List.set_cons_succ]
        refine wpAnyH_takeD (i := 12) (d := 146) (v := ?kc12) rfl rfl (by kernel_rfl) (by kernel_rfl) (by kernel_rfl) (fun _ _ _ h => h) (Or.inl ⟨by rfl, ?ykc12⟩) (by assumption) ?rkc12
        case ykc12 => (intro w hSw; (try dsimp only at hSw); go_simp <;> with_reducible rfl)
        try simp only [Act.put, List.setIfInBounds_toArray, List.set_cons_zero, List.set_cons_succ]
        refine wpAnyH_takeD (i := 13) (d := 147) (v := ?kc13) rfl rfl (by kernel_rfl) (by kernel_rfl) (by kernel_rfl) (fun _ _ _ h => h) (Or.inl ⟨by rfl, ?ykc13⟩) (by assumption) ?rkc13
        case ykc13 => (intro w hSw; (try dsimp only at hSw); go_simp <;> with_reducible rfl)
        try simp only [Act.put, List.setIfInBounds_toArray, List.set_cons_zero, List.set_cons_succ]
        refine wpAnyH_skips (by kernel_rfl) (fun _ _ _ _ h => h) (by assumption) [(14, 148), (15, 149), (16, 150), (17, 151), (18, 152), (19, 153), (20, 154), (21, 155), (22, 156), (23, 157), (24, 158)] 5 _ _ _ rfl (by kernel_rfl) ?_
        simp only [skipAct, skipListed, Act.put, List.setIfInBounds_toArray, List.set_cons_zero, List.set_cons_succ]
        refine wpAnyH_takeD (i := 25) (d := 159) (v := ?kc25) rfl rfl (by kernel_rfl) (by kernel_rfl) (by kernel_rfl) (fun _ _ _ h => h) (Or.inl ⟨by rfl, ?ykc25⟩) (by assumption) ?rkc25
        case ykc25 => (intro w hSw; (try dsimp only at hSw); go_simp <;> with_reducible rfl)
        try simp only [Act.put, List.setIfInBounds_toArray, List.set_cons_zero, List.set_cons_succ]
        refine wpAnyH_takeD (i := 26) (d := 160) (v := ?kc26) rfl rfl (by kernel_rfl) (by kernel_rfl) (by kernel_rfl) (fun _ _ _ h => h) (Or.inl ⟨by rfl, ?ykc26⟩) (by assumption) ?rkc26
        case ykc26 => (intro w hSw; (try dsimp only at hSw); go_simp <;> with_reducible rfl)
        try simp only [Act.put, List.setIfInBounds_toArray, List.set_cons_zero, List.set_cons_succ]
        refine wpAnyH_ready (rs := [27]) (by kernel_rfl) (by simp) ?_
        refine AllReadyH.cons rfl (fun K hK => ?_) AllReadyH.nil
        go_simp
        go_wp2_with (go_at_call 10; (with_reducible refine (HAW.out _ hHeld).mono ?_); rintro e wx ⟨rfl, hkeep⟩)
        refine hK.out _ _ hkeep (fun hHeld => ?_)
        clear hK K
        try simp only [Act.put, List.setIfInBounds_toArray, List.set_cons_zero, List.set_cons_succ]
        refine wpAnyH_takeD (i := 28) (d := 162) (v := ?kc28) rfl rfl (by kernel_rfl) (by kernel_rfl) (by kernel_rfl) (fun _ _ _ h => h) (Or.inl ⟨by rfl, ?ykc28⟩) (by assumption) ?rkc28
        case ykc28 => (intro w hSw; (try dsimp only at hSw); go_simp <;> with_reducible rfl)
        try simp only [Act.put, List.setIfInBounds_toArray, List.set_cons_zero, List.set_cons_succ]
        refine wpAnyH_takeD (i := 29) (d := 10) (v := ?kc29) rfl rfl (by kernel_rfl) (by kernel_rfl) (by kernel_rfl) (fun _ _ _ h => h) (Or.inl ⟨by rfl, ?ykc29⟩) (by assumption) ?rkc29
        case ykc29 => (intro w hSw; (try dsimp only at hSw); go_simp <;> with_reducible rfl)
        try simp only [Act.put, List.setIfInBounds_toArray, List.set_cons_zero, List.set_cons_succ]
        refine wpAnyH_done (by kernel_rfl) ?_ _
        have HE := Lib.hid (HFI.out _ hHeld)
        go_wp2_with fail
        go_ret
        exact ⟨rfl, HE.out⟩
      have e2 : (P == [109, 117, 116, 117, 97, 108]) = true := seq_yes hpm
      obtain rfl : eqv = true := by
        rcases hw2 with ⟨_, h | h⟩ | h
        · cases h
        · exact absurd hpm h
        · exact h
      clear hw2 hpm
      go_upto_region 13 with fail
      refine wp_region_held_drew (S := (fun W' => W'.cell? ⟨pb, j, none⟩ = some (.string (T P)) ∧ W'.cell? ⟨w.heap.size, 1, none⟩ = some (.string (T s)) ∧ W'.cell? ⟨w.heap.size + 1, 1, none⟩ = some (.string (T s2)) ∧ Below v8.heap.size v8 W')) (by kernel_rfl) HSD0.out (fun hHeld => ?_)
      refine wpAnyH_takeD (i := 0) (d := 134) (v := ?kd0) rfl rfl (by kernel_rfl) (by kernel_rfl) (by kernel_rfl) (fun _ _ _ h => h) (Or.inl ⟨by rfl, ?ykd0⟩) (by assumption) ?rkd0
      case ykd0 => (intro w hSw; (try dsimp only at hSw); go_simp <;> with_reducible rfl)
      try simp only [Act.put, List.setIfInBounds_toArray, List.set_cons_zero, List.set_cons_succ]
      refine wpAnyH_takeD (i := 1) (d := 135) (v := ?kd1) rfl rfl (by kernel_rfl) (by kernel_rfl) (by kernel_rfl) (fun _ _ _ h => h) (Or.inl ⟨by rfl, ?ykd1⟩) (by assumption) ?rkd1
      case ykd1 => (intro w hSw; (try dsimp only at hSw); go_simp <;> with_reducible rfl)
      try simp only [Act.put, List.setIfInBounds_toArray, List.set_cons_zero, List.set_cons_succ]
      refine wpAnyH_takeD (i := 2) (d := 136) (v := ?kd2) rfl rfl (by kernel_rfl) (by kernel_rfl) (by kernel_rfl) (fun _ _ _ h => h) (Or.inl ⟨by rfl, ?ykd2⟩) (by assumption) ?rkd2
      case ykd2 => (intro w hSw; (try dsimp only at hSw); go_simp <;> with_reducible rfl)
      try simp only [Act.put, List.setIfInBounds_toArray, List.set_cons_zero, List.set_cons_succ]
      refine wpAnyH_takeD (i := 3) (d := 137) (v := ?kd3) rfl rfl (by kernel_rfl) (by kernel_rfl) (by kernel_rfl) (fun _ _ _ h => h) (Or.inl ⟨by rfl, ?ykd3⟩) (by assumption) ?rkd3
      case ykd3 => (intro w hSw; (try dsimp only at hSw); go_simp <;> with_reducible rfl)
      try simp only [Act.put, List.setIfInBounds_toArray, List.set_cons_zero, List.set_cons_succ]
      refine wpAnyH_takeD (i := 4) (d := 138) (v := ?kd4) rfl rfl (by kernel_rfl) (by kernel_rfl) (by kernel_rfl) (fun _ _ _ h => h) (Or.inl ⟨by rfl, ?ykd4⟩) (by assumption) ?rkd4
      case ykd4 => (intro w hSw; (try dsimp only at hSw); go_simp <;> with_reducible rfl)
      try simp only [Act.put, List.setIfInBounds_toArray, List.set_cons_zero, List.set_cons_succ]
      refine wpAnyH_takeD (i := 5) (d := 139) (v := ?kd5) rfl rfl (by kernel_rfl) (by kernel_rfl) (by kernel_rfl) (fun _ _ _ h => h) (Or.inl ⟨by rfl, ?ykd5⟩) (by assumption) ?rkd5
      case ykd5 => (intro w hSw; (try dsimp only at hSw); go_simp <;> with_reducible rfl)
      try simp only [Act.put, List.setIfInBounds_toArray, List.set_cons_zero, List.set_cons_succ]
      refine wpAnyH_takeD (i := 6) (d := 140) (v := ?kd6) rfl rfl (by kernel_rfl) (by kernel_rfl) (by kernel_rfl) (fun _ _ _ h => h) (Or.inl ⟨by rfl, ?ykd6⟩) (by assumption) ?rkd6
      case ykd6 => (intro w hSw; (try dsimp only at hSw); go_simp <;> with_reducible rfl)
      try simp only [Act.put, List.setIfInBounds_toArray, List.set_cons_zero, List.set_cons_succ]
      refine wpAnyH_takeD (i := 7) (d := 141) (v := ?kd7) rfl rfl (by kernel_rfl) (by kernel_rfl) (by kernel_rfl) (fun _ _ _ h => h) (Or.inl ⟨by rfl, ?ykd7⟩) (by assumption) ?rkd7
      case ykd7 => (intro w hSw; (try dsimp only at hSw); go_simp <;> with_reducible rfl)
      try simp only [Act.put, List.setIfInBounds_toArray, List.set_cons_zero, List.set_cons_succ]
      refine wpAnyH_takeD (i := 8) (d := 142) (v := ?kd8) rfl rfl (by kernel_rfl) (by kernel_rfl) (by kernel_rfl) (fun _ _ _ h => h) (Or.inl ⟨by rfl, ?ykd8⟩) (by assumption) ?rkd8
      case ykd8 => (intro w hSw; (try dsimp only at hSw); go_simp <;> with_reducible rfl)
      try simp only [Act.put, List.setIfInBounds_toArray, List.set_cons_zero, List.set_cons_succ]
      refine wpAnyH_takeD (i := 9) (d := 143) (v := ?kd9) rfl rfl (by kernel_rfl) (by kernel_rfl) (by kernel_rfl) (fun _ _ _ h => h) (Or.inl ⟨by rfl, ?ykd9⟩) (by assumption) ?rkd9
      case ykd9 => (intro w hSw; (try dsimp only at hSw); go_simp <;> with_reducible rfl)
      try simp only [Act.put, List.setIfInBounds_toArray, List.set_cons_zero, List.set_cons_succ]
      refine wpAnyH_takeD (i := 10) (d := 144) (v := ?kd10) rfl rfl (by kernel_rfl) (by kernel_rfl) (by kernel_rfl) (fun _ _ _ h => h) (Or.inl ⟨by rfl, ?ykd10⟩) (by assumption) ?rkd10
      case ykd10 => (intro w hSw; (try dsimp only at hSw); go_simp <;> with_reducible rfl)
      try simp only [Act.put, List.setIfInBounds_toArray, List.set_cons_zero, List.set_cons_succ]
      refine wpAnyH_takeD (i := 11) (d := 145) (v := ?kd11) rfl rfl (by kernel_rfl) (by kernel_rfl) (by kernel_rfl) (fun _ _ _ h => h) (Or.inl ⟨by rfl, ?ykd11⟩) (by assumption) ?rkd11
      case ykd11 => (intro w hSw; (try dsimp only at hSw); go_simp <;> with_reducible rfl)
      try simp only [Act.put, List.setIfInBounds_toArray, List.set_cons_zero, List.set_cons_succ]
      refine wpAnyH_takeD (i := 12) (d := 146) (v := ?kd12) rfl rfl (by kernel_rfl) (by kernel_rfl) (by kernel_rfl) (fun _ _ _ h => h) (Or.inl ⟨by rfl, ?ykd12⟩) (by assumption) ?rkd12
      case ykd12 => (intro w hSw; (try dsimp only at hSw); go_simp <;> with_reducible rfl)
      try simp only [Act.put, List.setIfInBounds_toArray, List.set_cons_zero, List.set_cons_succ]
      refine wpAnyH_takeD (i := 13) (d := 147) (v := ?kd13) rfl rfl (by kernel_rfl) (by kernel_rfl) (by kernel_rfl) (fun _ _ _ h => h) (Or.inl ⟨by rfl, ?ykd13⟩) (by assumption) ?rkd13
      case ykd13 => (intro w hSw; (try dsimp only at hSw); go_simp <;> with_reducible rfl)
      try simp only [Act.put, List.setIfInBounds_toArray, List.set_cons_zero, List.set_cons_succ]
      refine wpAnyH_takeD (i := 14) (d := 148) (v := ?kd14) rfl rfl (by kernel_rfl) (by kernel_rfl) (by kernel_rfl) (fun _ _ _ h => h) (Or.inl ⟨by rfl, ?ykd14⟩) (by assumption) ?rkd14
      case ykd14 => (intro w hSw; (try dsimp only at hSw); go_simp <;> with_reducible rfl)
      try simp only [Act.put, List.setIfInBounds_toArray, List.set_cons_zero, List.set_cons_succ]
      refine wpAnyH_takeD (i := 15) (d := 149) (v := ?kd15) rfl rfl (by kernel_rfl) (by kernel_rfl) (by kernel_rfl) (fun _ _ _ h => h) (Or.inl ⟨by rfl, ?ykd15⟩) (by assumption) ?rkd15
      case ykd15 => (intro w hSw; (try dsimp only at hSw); go_simp <;> with_reducible rfl)
      try simp only [Act.put, List.setIfInBounds_toArray, List.set_cons_zero, List.set_cons_succ]
      refine wpAnyH_takeD (i := 16) (d := 150) (v := ?kd16) rfl rfl (by kernel_rfl) (by kernel_rfl) (by kernel_rfl) (fun _ _ _ h => h) (Or.inl ⟨by rfl, ?ykd16⟩) (by assumption) ?rkd16
      case ykd16 => (intro w hSw; (try dsimp only at hSw); go_simp <;> with_reducible rfl)
      try simp only [Act.put, List.setIfInBounds_toArray, List.set_cons_zero, List.set_cons_succ]
      refine wpAnyH_takeD (i := 17) (d := 151) (v := ?kd17) rfl rfl (by kernel_rfl) (by kernel_rfl) (by kernel_rfl) (fun _ _ _ h => h) (Or.inl ⟨by rfl, ?ykd17⟩) (by assumption) ?rkd17
      case ykd17 => (intro w hSw; (try dsimp only at hSw); go_simp <;> with_reducible rfl)
      try simp only [Act.put, List.setIfInBounds_toArray, List.set_cons_zero, List.set_cons_succ]
      refine wpAnyH_takeD (i := 18) (d := 152) (v := ?kd18) rfl rfl (by kernel_rfl) (by kernel_rfl) (by kernel_rfl) (fun _ _ _ h => h) (Or.inl ⟨by rfl, ?ykd18⟩) (by assumption) ?rkd18
      case ykd18 => (intro w hSw; (try dsimp only at hSw); go_simp <;> with_reducible rfl)
      try simp only [Act.put, List.setIfInBounds_toArray, List.set_cons_zero, List.set_cons_succ]
      refine wpAnyH_takeD (i := 19) (d := 153) (v := ?kd19) rfl rfl (by kernel_rfl) (by kernel_rfl) (by kernel_rfl) (fun _ _ _ h => h) (Or.inl ⟨by rfl, ?ykd19⟩) (by assumption) ?rkd19
      case ykd19 => (intro w hSw; (try dsimp only at hSw); go_simp <;> with_reducible rfl)
      try simp only [Act.put, List.setIfInBounds_toArray, List.set_cons_zero, List.set_cons_succ]
      refine wpAnyH_takeD (i := 20) (d := 154) (v := ?kd20) rfl rfl (by kernel_rfl) (by kernel_rfl) (by kernel_rfl) (fun _ _ _ h => h) (Or.inl ⟨by rfl, ?ykd20⟩) (by assumption) ?rkd20
      case ykd20 => (intro w hSw; (try dsimp only at hSw); go_simp <;> with_reducible rfl)
      try simp only [Act.put, List.setIfInBounds_toArray, List.set_cons_zero, List.set_cons_succ]
      refine wpAnyH_takeD (i := 21) (d := 155) (v := ?kd21) rfl rfl (by kernel_rfl) (by kernel_rfl) (by kernel_rfl) (fun _ _ _ h => h) (Or.inl ⟨by rfl, ?ykd21⟩) (by assumption) ?rkd21
      case ykd21 => (intro w hSw; (try dsimp only at hSw); go_simp <;> with_reducible rfl)
      try simp only [Act.put, List.setIfInBounds_toArray, List.set_cons_zero, List.set_cons_succ]
      refine wpAnyH_takeD (i := 22) (d := 156) (v := ?kd22) rfl rfl (by kernel_rfl) (by kernel_rfl) (by kernel_rfl) (fun _ _ _ h => h) (Or.inl ⟨by rfl, ?ykd22⟩) (by assumption) ?rkd22
      case ykd22 => (intro w hSw; (try dsimp only at hSw); go_simp <;> with_reducible rfl)
      try simp only [Act.put, List.setIfInBounds_toArray, List.set_cons_zero, List.set_cons_succ]
      refine wpAnyH_takeD (i := 23) (d := 157) (v := ?kd23) rfl rfl (by kernel_rfl) (by kernel_rfl) (by kernel_rfl) (fun _ _ _ h => h) (Or.inl ⟨by rfl, ?ykd23⟩) (by assumption) ?rkd23
      case ykd23 => (intro w hSw; (try dsimp only at hSw); go_simp <;> with_reducible rfl)
      try simp only [Act.put, List.setIfInBounds_toArray, List.set_cons_zero, List.set_cons_succ]
      refine wpAnyH_ready (rs := [24]) (by kernel_rfl) (by simp) ?_
      refine AllReadyH.cons rfl (fun K hK => ?_) AllReadyH.nil
      go_simp
      go_wp2_with (go_at_call 16; (with_reducible refine (HEQ.out _ hHeld).mono ?_); rintro e wx ⟨rfl, hkeep⟩)
      refine hK.out _ _ hkeep (fun hHeld => ?_)
      clear hK K
      try simp only [Act.put, List.setIfInBounds_toArray, List.set_cons_zero, List.set_cons_succ]
      refine wpAnyH_takeD (i := 25) (d := 159) (v := ?kd25) rfl rfl (by kernel_rfl) (by kernel_rfl) (by kernel_rfl) (fun _ _ _ h => h) (Or.inl ⟨by rfl, ?ykd25⟩) (by assumption) ?rkd25
      case ykd25 => (intro w hSw; (try dsimp only at hSw); go_simp <;> with_reducible rfl)
      try simp only [Act.put, List.setIfInBounds_toArray, List.set_cons_zero, List.set_cons_succ]
      refine wpAnyH_takeD (i := 26) (d := 160) (v := ?kd26) rfl rfl (by kernel_rfl) (by kernel_rfl) (by kernel_rfl) (fun _ _ _ h => h) (Or.inl ⟨by rfl, ?ykd26⟩) (by assumption) ?rkd26
      case ykd26 => (intro w hSw; (try dsimp only at hSw); go_simp <;> with_reducible rfl)
      try simp only [Act.put, List.setIfInBounds_toArray, List.set_cons_zero, List.set_cons_succ]
      refine wpAnyH_ready (rs := [27]) (by kernel_rfl) (by simp) ?_
      refine AllReadyH.cons rfl (fun K hK => ?_) AllReadyH.nil
      go_simp
      go_wp2_with (go_at_call 10; (with_reducible refine (HAW.out _ hHeld).mono ?_); rintro e wx ⟨rfl, hkeep⟩)
      refine hK.out _ _ hkeep (fun hHeld => ?_)
      clear hK K
      try simp only [Act.put, List.setIfInBounds_toArray, List.set_cons_zero, List.set_cons_succ]
      refine wpAnyH_takeD (i := 28) (d := 162) (v := ?kd28) rfl rfl (by kernel_rfl) (by kernel_rfl) (by kernel_rfl) (fun _ _ _ h => h) (Or.inl ⟨by rfl, ?ykd28⟩) (by assumption) ?rkd28
      case ykd28 => (intro w hSw; (try dsimp only at hSw); go_simp <;> with_reducible rfl)
      try simp only [Act.put, List.setIfInBounds_toArray, List.set_cons_zero, List.set_cons_succ]
      refine wpAnyH_takeD (i := 29) (d := 10) (v := ?kd29) rfl rfl (by kernel_rfl) (by kernel_rfl) (by kernel_rfl) (fun _ _ _ h => h) (Or.inl ⟨by rfl, ?ykd29⟩) (by assumption) ?rkd29
      case ykd29 => (intro w hSw; (try dsimp only at hSw); go_simp <;> with_reducible rfl)
      try simp only [Act.put, List.setIfInBounds_toArray, List.set_cons_zero, List.set_cons_succ]
      refine wpAnyH_done (by kernel_rfl) ?_ _
      have HE := Lib.hid (HFI.out _ hHeld)
      go_wp2_with fail
      go_ret
      exact ⟨rfl, HE.out⟩
end Go.Proofs.YtjjdaelddicokaaDoor
