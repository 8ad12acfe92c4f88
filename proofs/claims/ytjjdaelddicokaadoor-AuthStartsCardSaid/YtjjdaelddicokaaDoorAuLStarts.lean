/- The law AuthStarts returns true. Conditions: the slice holds the given list; the 64 constants in the variable. -/
import Derived.Test.YtjjdaelddicokaaDoorAuAwake
import Derived.Test.YtjjdaelddicokaaDoorAuLaws
import Derived.Test.YtjjdaelddicokaaDoorAuRStart
import Derived.Test.YtjjdaelddicokaaDoorAuRef3
set_option linter.unusedVariables false
set_option linter.unusedSimpArgs false
namespace Go.Proofs.YtjjdaelddicokaaDoor
open Go.RowKit
open Au (Att Cnv)
theorem prs_reads {W : World} {b : Nat} (h : Strs W (.slice (some ⟨b, 0, none⟩) 3 3) prs) : W.cell? ⟨b, 0, none⟩ = some (.string (T [99, 104, 97, 108])) ∧ W.cell? ⟨b, 1, none⟩ = some (.string (T [109, 117, 116, 117, 97, 108])) ∧ W.cell? ⟨b, 2, none⟩ = some (.string (T [112, 108, 97, 105, 110])) := by
  rcases h with ⟨h, _⟩ | ⟨_, _, h, h2⟩ | ⟨b2, o2, _, h, _, _, hc⟩
  · cases h
  · exact absurd h2 (by simp [prs])
  · cases h
    have h0 := hc 0 (by decide)
    have h1 := hc 1 (by decide)
    have h2 := hc 2 (by decide)
    exact ⟨h0, h1, h2⟩
theorem rstart_bx (proto : List UInt8) (role : Int) (kv : Value) (l : List Att) (nonce : List UInt8) (C : Cnv) (er : Int) (h : Au.start proto role l nonce = (C, er)) (w : World) (hk : Atts w kv l) (hl : l.length ≤ 1000) (hfl : ∀ j (h : j < l.length), l[j].name.length ≤ 1000 ∧ l[j].value.length ≤ 1000) (hn : nonce.length ≤ 1000) :
    Calls Tryd.prog 24 #[.string (T proto), .int .i64 role, kv, .string (T nonce)] w (BxR w C er) :=
  (rstart_any proto role kv l nonce w hk hl hfl hn).mono fun e w' h' => bx_of h (by rw [h]) h'
theorem small_fits {l : List Att} (h : Au.small l = true) : l.length ≤ 40 ∧ ∀ j (hj : j < l.length), l[j].name.length ≤ 200 ∧ l[j].value.length ≤ 200 := by
  unfold Au.small at h
  rw [Bool.and_eq_true, decide_eq_true_eq] at h
  refine ⟨h.1, fun j hj => ?_⟩
  have := List.all_eq_true.1 h.2 l[j] (List.getElem_mem hj)
  unfold Au.briefA at this
  simpa using this
set_option maxRecDepth 100000 in
set_option maxHeartbeats 16000000 in
theorem starts_T (proto : List UInt8) (role : Int) (kv : Value) (l : List Att) (nonce : List UInt8) (w : World) (hv : Atts w kv l) (hK : KIn w) :
    Calls Tryd.prog 7 #[.string (T proto), .int .i64 role, kv, .string (T nonce)] w fun e w' => e = .returned (.bool true) ∧ Below w.heap.size w w' := by
  have HV := Lib.hid hv
  have HAL := Lib.hid (fun (W : World) (h : Below w.heap.size w W) => awake_any W (hK.below h))
  have HSM := Lib.hid (fun (W : World) (h : Atts W kv l) => small_any kv l W h)
  clear hv hK
  cases hs : Au.small l with
  | false =>
    rw [hs] at HSM
    clear hs
    go_enter Tryd.func7, Tryd.ntmps7
    go_wp2_with fail
    (with_reducible refine (HSM.out _ HV.out).mono ?_); rintro e w0 ⟨rfl, rfl⟩
    go_wp2_with fail
    (with_reducible refine (HAL.out _ (Below.refl _ _)).mono ?_); rintro e v1 ⟨rfl, hbz⟩
    have HBW2 := Lib.hid (hbz)
    clear hbz
    have HE := Lib.hid HBW2.out
    go_wp2_with fail
    go_ret
    exact ⟨rfl, HE.out⟩
  | true =>
    obtain ⟨hle, hfl⟩ := small_fits hs
    rw [hs] at HSM
    clear hs
    by_cases ln : 100 < nonce.length
    · have f1 : (100 : Int) < (nonce.length : Int) := by omega
      clear ln hle hfl
      go_enter Tryd.func7, Tryd.ntmps7
      go_wp2_with fail
      (with_reducible refine (HSM.out _ HV.out).mono ?_); rintro e w0 ⟨rfl, rfl⟩
      go_wp2_with fail
      (with_reducible refine (HAL.out _ (Below.refl _ _)).mono ?_); rintro e v1 ⟨rfl, hbz⟩
      have HBW2 := Lib.hid (hbz)
      clear hbz
      have HE := Lib.hid HBW2.out
      go_wp2_with fail
      go_ret
      exact ⟨rfl, HE.out⟩
    have f1 : decide ((100 : Int) < (nonce.length : Int)) = false := decide_eq_false (by omega)
    by_cases lp : 200 < proto.length
    · have f2 : (200 : Int) < (proto.length : Int) := by omega
      clear ln lp hle hfl
      go_enter Tryd.func7, Tryd.ntmps7
      go_wp2_with fail
      (with_reducible refine (HSM.out _ HV.out).mono ?_); rintro e w0 ⟨rfl, rfl⟩
      go_wp2_with fail
      (with_reducible refine (HAL.out _ (Below.refl _ _)).mono ?_); rintro e v1 ⟨rfl, hbz⟩
      have HBW2 := Lib.hid (hbz)
      clear hbz
      have HE := Lib.hid HBW2.out
      go_wp2_with fail
      go_ret
      exact ⟨rfl, HE.out⟩
    have f2 : decide ((200 : Int) < (proto.length : Int)) = false := decide_eq_false (by omega)
    obtain ⟨R, er, hR⟩ : ∃ R er, Au.start proto role l nonce = (R, er) := ⟨_, _, rfl⟩
    have hfn : Fine R := by have := Au.start_fine proto role l nonce (by omega) (fun j hj => by have := hfl j hj; omega) (by omega); rw [hR] at this; exact this
    have HST := Lib.hid (fun (W : World) (h : Atts W kv l) => start_bx proto role kv l nonce R er hR W h (by omega) (fun j hj => by have := hfl j hj; omega) (by omega))
    have HRS := Lib.hid (fun (W : World) (h : Atts W kv l) => rstart_bx proto role kv l nonce R er hR W h (by omega) (fun j hj => by have := hfl j hj; omega) (by omega))
    have HSA := Lib.hid (fun v1 v2 (W : World) (h : Atts W v1 R.key) (h2 : Atts W v2 R.key) => same_any R v1 v2 W h h2 (by have := hfn.kl; omega))
    by_cases he : er = 0
    · subst he
      have hri := (Au.start_rt hR).right
      have HRI := Lib.hid (fun ao m cp (W : World) (h : Atts W (.slice ao m cp) R.key) => aright_any R ao m cp W h hfn)
      rw [hri] at HRI
      clear ln lp hle hfl hri hfn hR
      go_enter Tryd.func7, Tryd.ntmps7
      go_wp2_with fail
      (with_reducible refine (HSM.out _ HV.out).mono ?_); rintro e w0 ⟨rfl, rfl⟩
      go_wp2_with fail
      (with_reducible refine (HST.out _ HV.out).mono ?_); rintro e v1 ⟨a1, a2, a3, rfl, hta, hbl⟩
      have HBW2 := Lib.hid (hbl)
      clear hbl
      have HTA := Lib.hid hta
      clear hta
      go_upto_region 4 with fail
      have HX3 := Lib.hid (bx_new (c := R) HTA.out)
      have HBV3 := Lib.hid ((Below.refl v1.heap.size v1).alloc (Nat.le_refl _) (.cells #[.int .i64 R.id, .string (T R.proto), .int .i64 R.role, .int .i64 R.phase, .int .i64 R.step, (.slice a1 a2 a3), .string (T R.own), .string (T R.peer), .string (T R.user), .int .i64 R.err] 28))
      clear HTA
      generalize World.alloc _ _ = V3 at *
      go_wp2_with fail
      (with_reducible refine (HRS.out _ (HV.out.below (bnext HBW2.out HBV3.out))).mono ?_); rintro e v4 ⟨b1, b2, b3, rfl, hta, hbl⟩
      have HBW5 := Lib.hid (hbl)
      clear hbl
      have HTA := Lib.hid hta
      clear hta
      go_upto_region 5 with fail
      have HX6 := Lib.hid (bx_new (c := R) HTA.out)
      have HBV6 := Lib.hid ((Below.refl v4.heap.size v4).alloc (Nat.le_refl _) (.cells #[.int .i64 R.id, .string (T R.proto), .int .i64 R.role, .int .i64 R.phase, .int .i64 R.step, (.slice b1 b2 b3), .string (T R.own), .string (T R.peer), .string (T R.user), .int .i64 R.err] 28))
      clear HTA
      generalize World.alloc _ _ = V6 at *
      go_wp2_with fail
      (with_reducible refine (protos_any _).mono ?_); rintro e v7 ⟨pb, rfl, hps, hbl⟩
      have HBW8 := Lib.hid (hbl)
      clear hbl
      have HPS := Lib.hid hps
      clear hps
      obtain ⟨⟨x0, x1, x2, x3, x4, x5, x6, x7, x8, x9⟩, _⟩ := cv_reads (Bx.row (HX3.out.next (bnext (bnext HBW5.out HBV6.out) HBW8.out)))
      obtain ⟨⟨y0, y1, y2, y3, y4, y5, y6, y7, y8, y9⟩, _⟩ := cv_reads (Bx.row (HX6.out.next HBW8.out))
      go_wp2_with fail
      (with_reducible refine (HSA.out _ _ _ (Bx.att (HX3.out.next (bnext (bnext HBW5.out HBV6.out) HBW8.out))) (Bx.att (HX6.out.next HBW8.out))).mono ?_); rintro e v9 ⟨rfl, hbl⟩
      clear x0 x1 x2 x3 x4 x5 x6 x7 x8 x9 y0 y1 y2 y3 y4 y5 y6 y7 y8 y9
      have HBW10 := Lib.hid (hbl)
      clear hbl
      obtain ⟨⟨x0, x1, x2, x3, x4, x5, x6, x7, x8, x9⟩, _⟩ := cv_reads (Bx.row (HX3.out.next (bnext (bnext (bnext HBW5.out HBV6.out) HBW8.out) HBW10.out)))
      go_wp2_with fail
      (with_reducible refine (HRI.out _ _ _ _ (Bx.att (HX3.out.next (bnext (bnext (bnext HBW5.out HBV6.out) HBW8.out) HBW10.out)))).mono ?_); rintro e v11 ⟨rfl, hbl⟩
      clear x0 x1 x2 x3 x4 x5 x6 x7 x8 x9
      have HBW12 := Lib.hid (hbl)
      clear hbl
      obtain ⟨p0, p1, p2⟩ := prs_reads (HPS.out.below (bnext HBW10.out HBW12.out))
      go_wp2_with fail
      (with_reducible refine (HAL.out _ (bnext (bnext (bnext (bnext (bnext (bnext HBW2.out HBV3.out) HBW5.out) HBV6.out) HBW8.out) HBW10.out) HBW12.out)).mono ?_); rintro e v13 ⟨rfl, hbz⟩
      have HBW14 := Lib.hid (hbz)
      clear hbz
      have HE := Lib.hid (bnext (bnext (bnext (bnext (bnext (bnext (bnext HBW2.out HBV3.out) HBW5.out) HBV6.out) HBW8.out) HBW10.out) HBW12.out) HBW14.out)
      go_wp2_with fail
      go_ret
      exact ⟨rfl, HE.out⟩
    · have g1 : (er != 0) = false → False := fun h => he (by simpa using h)
      have g2 : (er != 0) = true := by rw [bne_iff_ne]; exact he
      clear ln lp hle hfl hfn hR g1 he
      go_enter Tryd.func7, Tryd.ntmps7
      go_wp2_with fail
      (with_reducible refine (HSM.out _ HV.out).mono ?_); rintro e w0 ⟨rfl, rfl⟩
      go_wp2_with fail
      (with_reducible refine (HST.out _ HV.out).mono ?_); rintro e v1 ⟨a1, a2, a3, rfl, hta, hbl⟩
      have HBW2 := Lib.hid (hbl)
      clear hbl
      have HTA := Lib.hid hta
      clear hta
      go_upto_region 4 with fail
      have HX3 := Lib.hid (bx_new (c := R) HTA.out)
      have HBV3 := Lib.hid ((Below.refl v1.heap.size v1).alloc (Nat.le_refl _) (.cells #[.int .i64 R.id, .string (T R.proto), .int .i64 R.role, .int .i64 R.phase, .int .i64 R.step, (.slice a1 a2 a3), .string (T R.own), .string (T R.peer), .string (T R.user), .int .i64 R.err] 28))
      clear HTA
      generalize World.alloc _ _ = V3 at *
      go_wp2_with fail
      (with_reducible refine (HRS.out _ (HV.out.below (bnext HBW2.out HBV3.out))).mono ?_); rintro e v4 ⟨b1, b2, b3, rfl, hta, hbl⟩
      have HBW5 := Lib.hid (hbl)
      clear hbl
      have HTA := Lib.hid hta
      clear hta
      go_upto_region 5 with fail
      have HX6 := Lib.hid (bx_new (c := R) HTA.out)
      have HBV6 := Lib.hid ((Below.refl v4.heap.size v4).alloc (Nat.le_refl _) (.cells #[.int .i64 R.id, .string (T R.proto), .int .i64 R.role, .int .i64 R.phase, .int .i64 R.step, (.slice b1 b2 b3), .string (T R.own), .string (T R.peer), .string (T R.user), .int .i64 R.err] 28))
      clear HTA
      generalize World.alloc _ _ = V6 at *
      go_wp2_with fail
      (with_reducible refine (protos_any _).mono ?_); rintro e v7 ⟨pb, rfl, hps, hbl⟩
      have HBW8 := Lib.hid (hbl)
      clear hbl
      have HPS := Lib.hid hps
      clear hps
      obtain ⟨⟨x0, x1, x2, x3, x4, x5, x6, x7, x8, x9⟩, _⟩ := cv_reads (Bx.row (HX3.out.next (bnext (bnext HBW5.out HBV6.out) HBW8.out)))
      obtain ⟨⟨y0, y1, y2, y3, y4, y5, y6, y7, y8, y9⟩, _⟩ := cv_reads (Bx.row (HX6.out.next HBW8.out))
      go_wp2_with fail
      (with_reducible refine (HSA.out _ _ _ (Bx.att (HX3.out.next (bnext (bnext HBW5.out HBV6.out) HBW8.out))) (Bx.att (HX6.out.next HBW8.out))).mono ?_); rintro e v9 ⟨rfl, hbl⟩
      clear x0 x1 x2 x3 x4 x5 x6 x7 x8 x9 y0 y1 y2 y3 y4 y5 y6 y7 y8 y9
      have HBW10 := Lib.hid (hbl)
      clear hbl
      obtain ⟨p0, p1, p2⟩ := prs_reads (HPS.out.below HBW10.out)
      go_wp2_with fail
      (with_reducible refine (HAL.out _ (bnext (bnext (bnext (bnext (bnext HBW2.out HBV3.out) HBW5.out) HBV6.out) HBW8.out) HBW10.out)).mono ?_); rintro e v11 ⟨rfl, hbz⟩
      have HBW12 := Lib.hid (hbz)
      clear hbz
      have HE := Lib.hid (bnext (bnext (bnext (bnext (bnext (bnext HBW2.out HBV3.out) HBW5.out) HBV6.out) HBW8.out) HBW10.out) HBW12.out)
      go_wp2_with fail
      go_ret
      exact ⟨rfl, HE.out⟩
end Go.Proofs.YtjjdaelddicokaaDoor
