/- The walk of MountUndo: true, for all inputs. Conditions: the slice holds the given mounts. -/
import Derived.Test.YtganenaaglfdnaaMntLaw
import Derived.Test.YtganenaaglfdnaaMntAdd
import Derived.Test.YtganenaaglfdnaaMntUnion
import Derived.Test.YtganenaaglfdnaaMntRRight
import Derived.Test.YtganenaaglfdnaaMntPSame
import Derived.Test.YtganenaaglfdnaaMntEqual
import Derived.Test.YtganenaaglfdnaaMntPlain
set_option linter.unusedVariables false
set_option linter.unusedSimpArgs false
namespace Go.Proofs.Ytganenaaglfdnaa
open Go.RowKit
theorem Ns.add_err {ms : List Mnt} {old c : Chn} {flag : Int} (h : (Ns.add ms old c flag).2 ≠ 0) : (Ns.add ms old c flag).1 = ms := by
  revert h; unfold Ns.add
  split
  · exact fun _ => rfl
  · split
    · exact fun _ => rfl
    · split
      · exact fun _ => rfl
      · split
        · exact fun _ => rfl
        · exact fun h => absurd rfl h

set_option maxRecDepth 100000 in
set_option maxHeartbeats 16000000 in
theorem lundo_any (id : Int) (r : Chn) (v : Value) (ms : List Mnt) (k : Int) (o x : Chn) (flag : Int) (w : World) (hv : Mnts w v ms) (hfl : flag ≤ 9223372036854775807) :
    Calls Try.prog 8 #[nsv id r v, opv k o x flag] w fun e w' => e = .returned (.bool true) ∧ Below w.heap.size w w' := by
  obtain ⟨ao, n, cp, rfl⟩ := hv.form
  obtain ⟨rfl, hat⟩ := hv.at
  clear hat
  have HV1 := Lib.hid hv
  clear hv
  unfold nsv opv
  go_enter Try.func8, Try.ntmps8
  go_upto_region 1 with fail
  obtain ⟨hr0, hr1, hb0⟩ := mafter2 (w := w) (A := .cells #[.int .i64 id, .int .i64 r.dev, .int .i64 r.id, .int .i64 r.fid, .string (T r.path), .string (T r.name), .slice ao ms.length cp] 26 (0, 0)) (B := .cells #[.int .i64 k, .int .i64 o.dev, .int .i64 o.id, .int .i64 o.fid, .string (T o.path), .string (T o.name), .int .i64 x.dev, .int .i64 x.id, .int .i64 x.fid, .string (T x.path), .string (T x.name), .int .i64 flag] 34 (0, 0)) (Below.refl _ _)
  generalize (w.alloc _).alloc _ = W0 at *
  have HV := Lib.hid (HV1.out.below hb0)
  have HBF := Lib.hid (show ∀ W, Below W0.heap.size W0 W → Below w.heap.size w W from fun W h => bnext hb0 h)
  clear hb0 HV1
  generalize w.heap.size = gn at hr0 hr1 ⊢
  have HN1 := Lib.hid hr0
  have HN2 := Lib.hid hr1
  clear hr0 hr1
  have HSM1 := Lib.hid (fun (W : World) (h : Below W0.heap.size W0 W) => show Calls Try.prog 10 #[.agg #[.int .i64 id, .int .i64 r.dev, .int .i64 r.id, .int .i64 r.fid, .string (T r.path), .string (T r.name), .slice ao ms.length cp]] W (SmSays ms W) from small_any id r _ ms W (HV.out.below h))
  have HLI := Lib.hid (fun (W : World) => show Calls Try.prog 19 #[.agg #[.int .i64 k, .int .i64 o.dev, .int .i64 o.id, .int .i64 o.fid, .string (T o.path), .string (T o.name), .int .i64 x.dev, .int .i64 x.id, .int .i64 x.fid, .string (T x.path), .string (T x.name), .int .i64 flag]] W fun e w' => e = .returned (.bool (Ns.brief o && Ns.brief x)) ∧ Below W.heap.size W w' from light_any k o x flag W)
  generalize (Ns.brief o && Ns.brief x) = LI at *
  obtain ⟨h0, h1, h2, h3, h4, h5, h6, _⟩ := nb_s HN1.out (Below.refl _ _)
  go_wp2_with fail
  (with_reducible refine (HSM1.out _ (Below.refl _ _)).mono ?_); rintro e w1 ⟨q, rfl, hx, b1⟩
  have HB1 := Lib.hid b1
  clear h0 h1 h2 h3 h4 h5 h6 b1
  cases q
  · clear hx
    go_wp2_with fail
    have HA := Lib.hid (show Calls Try.prog 11 #[] w1 _ from awake_any w1)
    (with_reducible refine HA.out.mono ?_); rintro e w9 ⟨rfl, b9⟩
    have HB9 := Lib.hid (HBF.out _ (bnext HB1.out b9))
    clear b9
    go_wp2_with fail
    go_ret
    exact ⟨rfl, HB9.out⟩
  obtain ⟨hl, hu'⟩ := hx rfl
  have hu : ∀ m ∈ ms, m.to.length ≤ 1000000 := fun m hm => by have := hu' m hm; omega
  clear hx
  obtain ⟨o0, o1, o2, o3, o4, o5, o6, o7, o8, o9, o10, o11⟩ := ob_s HN2.out HB1.out
  go_wp2_with fail
  (with_reducible refine (HLI.out _).mono ?_); rintro e w2 ⟨rfl, b2⟩
  have HB2 := Lib.hid (bnext HB1.out b2)
  clear o0 o1 o2 o3 o4 o5 o6 o7 o8 o9 o10 o11 b2
  cases LI
  ·
    go_wp2_with fail
    have HA := Lib.hid (show Calls Try.prog 11 #[] w2 _ from awake_any w2)
    (with_reducible refine HA.out.mono ?_); rintro e w9 ⟨rfl, b9⟩
    have HB9 := Lib.hid (HBF.out _ (bnext HB2.out b9))
    clear b9
    go_wp2_with fail
    go_ret
    exact ⟨rfl, HB9.out⟩
  obtain ⟨R, hR⟩ : ∃ R, Ns.right id r ms = R := ⟨_, rfl⟩
  have HRR := Lib.hid (fun (W : World) (h : Below W0.heap.size W0 W) => show Calls Try.prog 13 #[.agg #[.int .i64 id, .int .i64 r.dev, .int .i64 r.id, .int .i64 r.fid, .string (T r.path), .string (T r.name), .slice ao ms.length cp]] W fun e w' => e = .returned (.bool R) ∧ Below W.heap.size W w' from (rmright_any id r _ ms W (HV.out.below h) (by omega) hu).mono fun e w' h' => ⟨by rw [← hR]; exact h'.1, h'.2⟩)
  obtain ⟨h0, h1, h2, h3, h4, h5, h6, _⟩ := nb_s HN1.out HB2.out
  go_wp2_with fail
  (with_reducible refine (HRR.out _ HB2.out).mono ?_); rintro e w4 ⟨rfl, b4⟩
  have HB4 := Lib.hid (bnext HB2.out b4)
  clear h0 h1 h2 h3 h4 h5 h6 b4
  cases R
  ·
    go_wp2_with fail
    have HA := Lib.hid (show Calls Try.prog 11 #[] w4 _ from awake_any w4)
    (with_reducible refine HA.out.mono ?_); rintro e w9 ⟨rfl, b9⟩
    have HB9 := Lib.hid (HBF.out _ (bnext HB4.out b9))
    clear b9
    go_wp2_with fail
    go_ret
    exact ⟨rfl, HB9.out⟩
  clear HRR HLI HSM1
  have hRT := Ns.right_true hR
  obtain ⟨⟨M, E⟩, hME⟩ : ∃ p, Ns.add ms o x flag = p := ⟨_, rfl⟩
  have HAD := Lib.hid (fun (W : World) (h : Below W0.heap.size W0 W) => show Calls Try.prog 28 #[.agg #[.int .i64 id, .int .i64 r.dev, .int .i64 r.id, .int .i64 r.fid, .string (T r.path), .string (T r.name), .slice ao ms.length cp], .agg #[.int .i64 o.dev, .int .i64 o.id, .int .i64 o.fid, .string (T o.path), .string (T o.name)], .agg #[.int .i64 x.dev, .int .i64 x.id, .int .i64 x.fid, .string (T x.path), .string (T x.name)], .int .i64 flag] W (NsErr (fun _ => True) id r (M, E) W) from by
    rw [← hME]; exact madd_any (fun _ => True) id r _ ms o x flag W (HV.out.below h) (fun _ _ => trivial) (by omega) (fun m hm => by have := hu' m hm; omega) hfl)
  have HEQ := Lib.hid (fun (a : Option Addr) (n c : Nat) (W : World) (h : Below W0.heap.size W0 W) (h1 : Mnts W (.slice a n c) ms) => show Calls Try.prog 14 #[.agg #[.int .i64 id, .int .i64 r.dev, .int .i64 r.id, .int .i64 r.fid, .string (T r.path), .string (T r.name), .slice a n c], .agg #[.int .i64 id, .int .i64 r.dev, .int .i64 r.id, .int .i64 r.fid, .string (T r.path), .string (T r.name), .slice ao ms.length cp]] W fun e w' => e = .returned (.bool true) ∧ Below W.heap.size W w' from
    eqns_any id r _ _ ms W h1 (HV.out.below h) (by omega) hu)
  have HSA := Lib.hid (fun (a : Option Addr) (n c : Nat) (W : World) (h : Below W0.heap.size W0 W) (h1 : Mnts W (.slice a n c) ms) => show Calls Try.prog 26 #[.agg #[.int .i64 id, .int .i64 r.dev, .int .i64 r.id, .int .i64 r.fid, .string (T r.path), .string (T r.name), .slice a n c], .agg #[.int .i64 id, .int .i64 r.dev, .int .i64 r.id, .int .i64 r.fid, .string (T r.path), .string (T r.name), .slice ao ms.length cp]] W fun e w' => e = .returned (.bool true) ∧ Below W.heap.size W w' from
    (msamens_any id r _ ms id r _ ms W h1 (HV.out.below h) (by omega) (by omega) hu hu).mono fun e w' h' => ⟨by rw [← Ns.same?_refl r ms]; exact h'.1, h'.2⟩)
  obtain ⟨⟨U, B⟩, hU⟩ : ∃ p, Ns.union ms o = p := ⟨_, rfl⟩
  have HUP := Lib.hid (fun (W : World) (h : Below W0.heap.size W0 W) => show Calls Try.prog 23 #[.agg #[.int .i64 id, .int .i64 r.dev, .int .i64 r.id, .int .i64 r.fid, .string (T r.path), .string (T r.name), .slice ao ms.length cp], .agg #[.int .i64 o.dev, .int .i64 o.id, .int .i64 o.fid, .string (T o.path), .string (T o.name)]] W (UnSays (U, B) W) from by rw [← hU]; exact munion_any id r _ ms o W (HV.out.below h) (by omega) hu)
  obtain ⟨h0, h1, h2, h3, h4, h5, h6, _⟩ := nb_s HN1.out HB4.out
  obtain ⟨o0, o1, o2, o3, o4, o5, o6, o7, o8, o9, o10, o11⟩ := ob_s HN2.out HB4.out
  by_cases hE : E = 0
  rotate_left
  · -- Add refuses
    have HEM := Lib.hid (show M = ms from by
      have hq := Ns.add_err (ms := ms) (old := o) (c := x) (flag := flag) (by rw [hME]; exact hE)
      rw [hME] at hq; exact hq)
    clear hRT hU hME hu hu' hl hR
    go_wp2_with fail
    (with_reducible refine (HAD.out _ HB4.out).mono ?_); rintro e w6 ⟨a6, n6, c6, rfl, hm6, b6⟩
    unfold nsv
    have HB6 := Lib.hid (bnext HB4.out b6)
    have HM6 := Lib.hid hm6.mnts
    clear h0 h1 h2 h3 h4 h5 h6 b6 hm6
    clear o0 o1 o2 o3 o4 o5 o6 o7 o8 o9 o10 o11
    go_upto_region 4 with fail
    have HX := Lib.hid (heap_alloc_new w6 (.cells #[.int .i64 id, .int .i64 r.dev, .int .i64 r.id, .int .i64 r.fid, .string (T r.path), .string (T r.name), .slice a6 n6 c6] 26 (0, 0)))
    replace HM6 := Lib.hid (HM6.out.below ((Below.refl _ _).alloc (Nat.le_refl _) (.cells #[.int .i64 id, .int .i64 r.dev, .int .i64 r.id, .int .i64 r.fid, .string (T r.path), .string (T r.name), .slice a6 n6 c6] 26 (0, 0))))
    replace HB6 := Lib.hid (HB6.out.alloc HB6.out.size (.cells #[.int .i64 id, .int .i64 r.dev, .int .i64 r.id, .int .i64 r.fid, .string (T r.path), .string (T r.name), .slice a6 n6 c6] 26 (0, 0)))
    generalize w6.alloc _ = W6 at *
    generalize w6.heap.size = g6 at HX ⊢
    rw [HEM.out] at HM6
    obtain ⟨h0, h1, h2, h3, h4, h5, h6, _⟩ := nb_s HN1.out HB6.out
    obtain ⟨x0, x1, x2, x3, x4, x5, x6, _⟩ := nb_s HX.out (Below.refl _ _)
    go_wp2_with fail
    (with_reducible refine (HEQ.out _ _ _ _ HB6.out HM6.out).mono ?_); rintro e w10 ⟨rfl, b10⟩
    have HB10 := Lib.hid (bnext HB6.out b10)
    clear h0 h1 h2 h3 h4 h5 h6 b10
    clear x0 x1 x2 x3 x4 x5 x6
    go_wp2_with fail
    have HA := Lib.hid (show Calls Try.prog 11 #[] w10 _ from awake_any w10)
    (with_reducible refine HA.out.mono ?_); rintro e w9 ⟨rfl, b9⟩
    have HB9 := Lib.hid (HBF.out _ (bnext HB10.out b9))
    clear b9
    go_wp2_with fail
    go_ret
    exact ⟨rfl, HB9.out⟩
  subst hE
  -- Add has done it
  have hA := Ns.add_ok (show (Ns.add ms o x flag).2 = 0 from by rw [hME])
  obtain ⟨⟨hf0, hf6, hf3⟩, hok, hox, hA4, hA5, hA6, hA7⟩ := hA
  obtain ⟨UU, hUU⟩ : ∃ u, Ns.next (Ns.base ms o) ⟨x, decide (4 ≤ flag)⟩ flag = u := ⟨_, rfl⟩
  rw [hME, hUU] at hA7
  simp only at hA7
  have hokU : Ns.okU' UU := by rw [← hUU]; exact Ns.okU_next (Ns.base_okU hRT hok) hox hA4 hA5
  have hrM : Ns.Right id r M := by have := Ns.right_add hRT o x flag; rw [hME] at this; exact this
  have hrM6 := Ns.right_iff.1 hrM
  have huM : ∀ m ∈ M, m.to.length ≤ 1000000 := fun m hm => by have := (hrM6.2.2.2.2.1 m hm).2.2.1; omega
  have HUA := Lib.hid (fun (a : Option Addr) (n c : Nat) (W : World) (h : Mnts W (.slice a n c) M) => show Calls Try.prog 23 #[.agg #[.int .i64 id, .int .i64 r.dev, .int .i64 r.id, .int .i64 r.fid, .string (T r.path), .string (T r.name), .slice a n c], .agg #[.int .i64 o.dev, .int .i64 o.id, .int .i64 o.fid, .string (T o.path), .string (T o.name)]] W (UnSays (UU, true) W) from by
    rw [← Ns.union_put ms o UU, ← hA7]
    exact munion_any id r _ M o W h (by have := hrM6.2.2.2.1; omega) huM)
  have HCA := Lib.hid (fun (hb : B = false) (a : Option Addr) (n c : Nat) (W : World) (h : Mnts W (.slice a n c) M) => show Calls Try.prog 29 #[.agg #[.int .i64 id, .int .i64 r.dev, .int .i64 r.id, .int .i64 r.fid, .string (T r.path), .string (T r.name), .slice a n c], .agg #[.int .i64 o.dev, .int .i64 o.id, .int .i64 o.fid, .string (T o.path), .string (T o.name)]] W (NsErr (fun _ => True) id r (ms, 0) W) from by
    have hf : Ns.find ms o < 0 := by
      have h1 := Ns.union_snd (ms := ms) (c := o)
      rw [hU] at h1
      simp only [hb] at h1
      rcases Int.lt_or_le (Ns.find ms o) 0 with h2 | h2
      · exact h2
      · rw [decide_eq_true h2] at h1; cases h1
    rw [← Ns.cutAll_put UU hf, ← hA7]
    exact mcutall_any (fun _ => True) id r _ M o W h (fun _ _ => trivial) (by have := hrM6.2.2.2.1; omega) huM)
  have HCU := Lib.hid (fun (hb : B = true) (hg : flag % 4 ≠ 0) (a : Option Addr) (n c : Nat) (W : World) (h : Mnts W (.slice a n c) M) => show Calls Try.prog 30 #[.agg #[.int .i64 id, .int .i64 r.dev, .int .i64 r.id, .int .i64 r.fid, .string (T r.path), .string (T r.name), .slice a n c], .agg #[.int .i64 o.dev, .int .i64 o.id, .int .i64 o.fid, .string (T o.path), .string (T o.name)], .agg #[.int .i64 x.dev, .int .i64 x.id, .int .i64 x.fid, .string (T x.path), .string (T x.name)]] W (NsErr (fun _ => True) id r (ms, 0) W) from by
    have hf : 0 ≤ Ns.find ms o := by
      have h1 := Ns.union_snd (ms := ms) (c := o)
      rw [hU] at h1
      simp only [hb] at h1
      exact of_decide_eq_true h1.symm
    have hc := Ns.cut_add hRT (old := o) (c := x) (flag := flag) (by rw [hME]) hf hg
    rw [hME] at hc
    simp only at hc
    rw [← hc]
    exact mcut_any (fun _ => True) id r _ M o x W h (fun _ _ => trivial) (by have := hrM6.2.2.2.1; omega) huM)
  have HUX := Lib.hid (fun (hg : flag % 4 = 0) => show UU = [⟨x, decide (4 ≤ flag)⟩] from by rw [← hUU]; unfold Ns.next; rw [if_pos hg])
  obtain ⟨L, hL⟩ : ∃ L, UU.length = L := ⟨_, rfl⟩
  have hL1 : ¬ (L : Int) = 0 := by have := hokU.1; omega
  have htm : flag.tmod 4 = flag % 4 := Int.tmod_eq_emod_of_nonneg hf0
  have HTM := Lib.hid htm
  clear hRT hU hME hu hu' hl hR hf0 hf6 hf3 hok hox hA4 hA5 hA6 hA7 hokU hrM hrM6 huM hUU htm
  go_wp2_with fail
  (with_reducible refine (HAD.out _ HB4.out).mono ?_); rintro e w6 ⟨a6, n6, c6, rfl, hm6, b6⟩
  unfold nsv
  have HB6 := Lib.hid (bnext HB4.out b6)
  have HM6 := Lib.hid hm6.mnts
  clear h0 h1 h2 h3 h4 h5 h6 b6 hm6
  clear o0 o1 o2 o3 o4 o5 o6 o7 o8 o9 o10 o11
  go_upto_region 4 with fail
  have HX := Lib.hid (heap_alloc_new w6 (.cells #[.int .i64 id, .int .i64 r.dev, .int .i64 r.id, .int .i64 r.fid, .string (T r.path), .string (T r.name), .slice a6 n6 c6] 26 (0, 0)))
  replace HM6 := Lib.hid (HM6.out.below ((Below.refl _ _).alloc (Nat.le_refl _) (.cells #[.int .i64 id, .int .i64 r.dev, .int .i64 r.id, .int .i64 r.fid, .string (T r.path), .string (T r.name), .slice a6 n6 c6] 26 (0, 0))))
  replace HB6 := Lib.hid (HB6.out.alloc HB6.out.size (.cells #[.int .i64 id, .int .i64 r.dev, .int .i64 r.id, .int .i64 r.fid, .string (T r.path), .string (T r.name), .slice a6 n6 c6] 26 (0, 0)))
  generalize w6.alloc _ = W6 at *
  generalize w6.heap.size = g6 at HX ⊢
  obtain ⟨h0, h1, h2, h3, h4, h5, h6, _⟩ := nb_s HN1.out HB6.out
  obtain ⟨o0, o1, o2, o3, o4, o5, o6, o7, o8, o9, o10, o11⟩ := ob_s HN2.out HB6.out
  go_wp2_with fail
  (with_reducible refine (HUP.out _ HB6.out).mono ?_); rintro e w5 ⟨a5, n5, c5, rfl, ht5, b5⟩
  have HB5 := Lib.hid (bnext HB6.out b5)
  replace HM6 := Lib.hid (HM6.out.below b5)
  have HX5 := Lib.hid (nb_s HX.out b5)
  clear h0 h1 h2 h3 h4 h5 h6 b5 ht5
  clear o0 o1 o2 o3 o4 o5 o6 o7 o8 o9 o10 o11
  obtain ⟨x0, x1, x2, x3, x4, x5, x6, _⟩ := HX5.out
  obtain ⟨o0, o1, o2, o3, o4, o5, o6, o7, o8, o9, o10, o11⟩ := ob_s HN2.out HB5.out
  go_wp2_with fail
  (with_reducible refine (HUA.out _ _ _ _ HM6.out).mono ?_); rintro e w7 ⟨a7, n7, c7, rfl, ht7, b7⟩
  have HB7 := Lib.hid (bnext HB5.out b7)
  replace HM6 := Lib.hid (HM6.out.below b7)
  have HX7 := Lib.hid (nb_s HX.out (bnext HX5.out.2.2.2.2.2.2.2 b7))
  have HT7 := Lib.hid ht7
  have hn7 : n7 = UU.length := by obtain ⟨_, _, e, _⟩ := ht7; cases e; rfl
  rw [hL] at hn7
  subst hn7
  clear x0 x1 x2 x3 x4 x5 x6 b7 ht7
  clear o0 o1 o2 o3 o4 o5 o6 o7 o8 o9 o10 o11
  cases B
  · -- nothing was mounted there
    replace HCA := Lib.hid (HCA.out rfl)
    clear HCU
    obtain ⟨h0, h1, h2, h3, h4, h5, h6, _⟩ := nb_s HN1.out HB7.out
    obtain ⟨o0, o1, o2, o3, o4, o5, o6, o7, o8, o9, o10, o11⟩ := ob_s HN2.out HB7.out
    obtain ⟨x0, x1, x2, x3, x4, x5, x6, _⟩ := HX7.out
    go_wp2_with fail
    (with_reducible refine (HCA.out _ _ _ _ HM6.out).mono ?_); rintro e w8 ⟨a8, n8, c8, rfl, hm8, b8⟩
    unfold nsv
    have HB8 := Lib.hid (bnext HB7.out b8)
    have HM8 := Lib.hid hm8.mnts
    clear h0 h1 h2 h3 h4 h5 h6 b8 hm8
    clear o0 o1 o2 o3 o4 o5 o6 o7 o8 o9 o10 o11
    clear x0 x1 x2 x3 x4 x5 x6
    go_upto_region 12 with fail
    have HY := Lib.hid (heap_alloc_new w8 (.cells #[.int .i64 id, .int .i64 r.dev, .int .i64 r.id, .int .i64 r.fid, .string (T r.path), .string (T r.name), .slice a8 n8 c8] 26 (0, 0)))
    replace HM8 := Lib.hid (HM8.out.below ((Below.refl _ _).alloc (Nat.le_refl _) (.cells #[.int .i64 id, .int .i64 r.dev, .int .i64 r.id, .int .i64 r.fid, .string (T r.path), .string (T r.name), .slice a8 n8 c8] 26 (0, 0))))
    replace HB8 := Lib.hid (HB8.out.alloc HB8.out.size (.cells #[.int .i64 id, .int .i64 r.dev, .int .i64 r.id, .int .i64 r.fid, .string (T r.path), .string (T r.name), .slice a8 n8 c8] 26 (0, 0)))
    generalize w8.alloc _ = W8 at *
    generalize w8.heap.size = g8 at HY ⊢
    obtain ⟨h0, h1, h2, h3, h4, h5, h6, _⟩ := nb_s HN1.out HB8.out
    obtain ⟨x0, x1, x2, x3, x4, x5, x6, _⟩ := nb_s HY.out (Below.refl _ _)
    go_wp2_with fail
    (with_reducible refine (HSA.out _ _ _ _ HB8.out HM8.out).mono ?_); rintro e w10 ⟨rfl, b10⟩
    have HB10 := Lib.hid (bnext HB8.out b10)
    clear h0 h1 h2 h3 h4 h5 h6 b10
    clear x0 x1 x2 x3 x4 x5 x6
    go_wp2_with fail
    have HA := Lib.hid (show Calls Try.prog 11 #[] w10 _ from awake_any w10)
    (with_reducible refine HA.out.mono ?_); rintro e w9 ⟨rfl, b9⟩
    have HB9 := Lib.hid (HBF.out _ (bnext HB10.out b9))
    clear b9
    go_wp2_with fail
    go_ret
    exact ⟨rfl, HB9.out⟩
  by_cases hg : flag % 4 = 0
  · -- replaced
    have htm0 : flag.tmod 4 = 0 := by rw [HTM.out]; exact hg
    have hUX := HUX.out hg
    subst hUX
    have hn1 : n7 = 1 := by rw [← hL]; rfl
    subst hn1
    obtain ⟨ax, cx, ev, hcx, hnx, hat⟩ := HT7.out
    obtain ⟨b8, off8, rfl, hlt8, ⟨u0, u1, _⟩, _⟩ := hat 0 (by simp)
    cases ev
    simp only [Nat.zero_mul, Nat.add_zero, List.getElem_cons_zero] at u0 u1
    clear hg hat hnx hL1 hL
    obtain ⟨o0, o1, o2, o3, o4, o5, o6, o7, o8, o9, o10, o11⟩ := ob_s HN2.out HB7.out
    go_upto_region 14 with fail
    have HKP := Lib.hid (show ∀ W, Below w7.heap.size w7 W → (W.cell? ⟨b8, off8, none⟩ = some (.int .i64 x.dev) ∧ W.cell? ⟨b8, off8 + 1, none⟩ = some (.int .i64 x.id) ∧ W.cell? ⟨gn + 1, 6, none⟩ = some (.int .i64 x.dev) ∧ W.cell? ⟨gn + 1, 7, none⟩ = some (.int .i64 x.id) ∧ Below w7.heap.size w7 W) from fun W h => by
      obtain ⟨_, _, _, _, _, _, o6, o7, _⟩ := ob_s HN2.out (bnext HB7.out h)
      exact ⟨by rw [(bcell h).1 _ _ hlt8]; exact u0, by rw [(bcell h).1 _ _ hlt8]; exact u1, o6, o7, h⟩)
    have HST := Lib.hid (HKP.out _ (below_drew1 (Below.refl _ _)))
    have HAW := Lib.hid (fun (W : World) (h : (W.cell? ⟨b8, off8, none⟩ = some (.int .i64 x.dev) ∧ W.cell? ⟨b8, off8 + 1, none⟩ = some (.int .i64 x.id) ∧ W.cell? ⟨gn + 1, 6, none⟩ = some (.int .i64 x.dev) ∧ W.cell? ⟨gn + 1, 7, none⟩ = some (.int .i64 x.id) ∧ Below w7.heap.size w7 W)) => show Calls Try.prog 11 #[] W fun e w' => e = .returned (.bool true) ∧ (w'.cell? ⟨b8, off8, none⟩ = some (.int .i64 x.dev) ∧ w'.cell? ⟨b8, off8 + 1, none⟩ = some (.int .i64 x.id) ∧ w'.cell? ⟨gn + 1, 6, none⟩ = some (.int .i64 x.dev) ∧ w'.cell? ⟨gn + 1, 7, none⟩ = some (.int .i64 x.id) ∧ Below w7.heap.size w7 w') from (awake_any W).mono fun e w' h' => ⟨h'.1, HKP.out _ (bnext h.2.2.2.2 h'.2)⟩)
    go_region_held_law (fun W' => (W'.cell? ⟨b8, off8, none⟩ = some (.int .i64 x.dev) ∧ W'.cell? ⟨b8, off8 + 1, none⟩ = some (.int .i64 x.id) ∧ W'.cell? ⟨gn + 1, 6, none⟩ = some (.int .i64 x.dev) ∧ W'.cell? ⟨gn + 1, 7, none⟩ = some (.int .i64 x.id) ∧ Below w7.heap.size w7 W')) (first | (with_reducible assumption) | (with_reducible exact HST.out)) (first | (go_at_call 11; (with_reducible refine (HAW.out _ (by assumption)).mono ?_); rintro e wx ⟨rfl, hkeep⟩))
    all_goals
      go_wp2_with fail
      go_ret
      exact ⟨rfl, HBF.out _ (bnext HB7.out hkeep.2.2.2.2)⟩
  have htm0 : ¬ flag.tmod 4 = 0 := by rw [HTM.out]; exact hg
  replace HCU := Lib.hid (HCU.out rfl hg)
  clear HCA hg
  obtain ⟨h0, h1, h2, h3, h4, h5, h6, _⟩ := nb_s HN1.out HB7.out
  obtain ⟨o0, o1, o2, o3, o4, o5, o6, o7, o8, o9, o10, o11⟩ := ob_s HN2.out HB7.out
  obtain ⟨x0, x1, x2, x3, x4, x5, x6, _⟩ := HX7.out
  go_wp2_with fail
  (with_reducible refine (HCU.out _ _ _ _ HM6.out).mono ?_); rintro e w8 ⟨a8, n8, c8, rfl, hm8, b8⟩
  unfold nsv
  have HB8 := Lib.hid (bnext HB7.out b8)
  have HM8 := Lib.hid hm8.mnts
  clear h0 h1 h2 h3 h4 h5 h6 b8 hm8
  clear o0 o1 o2 o3 o4 o5 o6 o7 o8 o9 o10 o11
  clear x0 x1 x2 x3 x4 x5 x6
  go_upto_region 16 with fail
  have HY := Lib.hid (heap_alloc_new w8 (.cells #[.int .i64 id, .int .i64 r.dev, .int .i64 r.id, .int .i64 r.fid, .string (T r.path), .string (T r.name), .slice a8 n8 c8] 26 (0, 0)))
  replace HM8 := Lib.hid (HM8.out.below ((Below.refl _ _).alloc (Nat.le_refl _) (.cells #[.int .i64 id, .int .i64 r.dev, .int .i64 r.id, .int .i64 r.fid, .string (T r.path), .string (T r.name), .slice a8 n8 c8] 26 (0, 0))))
  replace HB8 := Lib.hid (HB8.out.alloc HB8.out.size (.cells #[.int .i64 id, .int .i64 r.dev, .int .i64 r.id, .int .i64 r.fid, .string (T r.path), .string (T r.name), .slice a8 n8 c8] 26 (0, 0)))
  generalize w8.alloc _ = W8 at *
  generalize w8.heap.size = g8 at HY ⊢
  obtain ⟨h0, h1, h2, h3, h4, h5, h6, _⟩ := nb_s HN1.out HB8.out
  obtain ⟨x0, x1, x2, x3, x4, x5, x6, _⟩ := nb_s HY.out (Below.refl _ _)
  go_wp2_with fail
  (with_reducible refine (HSA.out _ _ _ _ HB8.out HM8.out).mono ?_); rintro e w10 ⟨rfl, b10⟩
  have HB10 := Lib.hid (bnext HB8.out b10)
  clear h0 h1 h2 h3 h4 h5 h6 b10
  clear x0 x1 x2 x3 x4 x5 x6
  go_wp2_with fail
  have HA := Lib.hid (show Calls Try.prog 11 #[] w10 _ from awake_any w10)
  (with_reducible refine HA.out.mono ?_); rintro e w9 ⟨rfl, b9⟩
  have HB9 := Lib.hid (HBF.out _ (bnext HB10.out b9))
  clear b9
  go_wp2_with fail
  go_ret
  exact ⟨rfl, HB9.out⟩
end Go.Proofs.Ytganenaaglfdnaa
