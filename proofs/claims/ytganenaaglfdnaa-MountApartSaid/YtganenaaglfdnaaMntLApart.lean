/- The walk of MountApart: true, for all inputs. Conditions: the slice holds the given mounts. -/
import Derived.Test.YtganenaaglfdnaaMntLaw
import Derived.Test.YtganenaaglfdnaaMntDid
import Derived.Test.YtganenaaglfdnaaMntUnion
import Derived.Test.YtganenaaglfdnaaMntRRight
set_option linter.unusedVariables false
set_option linter.unusedSimpArgs false
namespace Go.Proofs.Ytganenaaglfdnaa
open Go.RowKit

set_option maxRecDepth 100000 in
set_option maxHeartbeats 8000000 in
theorem lapart_any (id : Int) (r : Chn) (v : Value) (ms : List Mnt) (k : Int) (o x : Chn) (flag : Int) (c : Chn) (w : World) (hv : Mnts w v ms) (hfl : flag ≤ 9223372036854775807) :
    Calls Try.prog 9 #[nsv id r v, opv k o x flag, chv c] w fun e w' => e = .returned (.bool true) ∧ Below w.heap.size w w' := by
  obtain ⟨ao, n, cp, rfl⟩ := hv.form
  obtain ⟨rfl, hat⟩ := hv.at
  clear hat
  have HV1 := Lib.hid hv
  clear hv
  unfold nsv chv opv
  go_enter Try.func9, Try.ntmps9
  go_upto_region 1 with fail
  obtain ⟨hr0, hr1, hr2, hb0⟩ := mafter3 (w := w) (A := .cells #[.int .i64 id, .int .i64 r.dev, .int .i64 r.id, .int .i64 r.fid, .string (T r.path), .string (T r.name), .slice ao ms.length cp] 26 (0, 0)) (B := .cells #[.int .i64 k, .int .i64 o.dev, .int .i64 o.id, .int .i64 o.fid, .string (T o.path), .string (T o.name), .int .i64 x.dev, .int .i64 x.id, .int .i64 x.fid, .string (T x.path), .string (T x.name), .int .i64 flag] 34 (0, 0)) (C := .cells #[.int .i64 c.dev, .int .i64 c.id, .int .i64 c.fid, .string (T c.path), .string (T c.name)] 23 (0, 0)) (Below.refl _ _)
  generalize ((w.alloc _).alloc _).alloc _ = W0 at *
  have HV := Lib.hid (HV1.out.below hb0)
  have HBF := Lib.hid (show ∀ W, Below W0.heap.size W0 W → Below w.heap.size w W from fun W h => bnext hb0 h)
  clear hb0 HV1
  generalize w.heap.size = gn at hr0 hr1 hr2 ⊢
  have HN1 := Lib.hid hr0
  have HN2 := Lib.hid hr1
  have HN3 := Lib.hid hr2
  clear hr0 hr1 hr2
  have HSM1 := Lib.hid (fun (W : World) (h : Below W0.heap.size W0 W) => show Calls Try.prog 10 #[.agg #[.int .i64 id, .int .i64 r.dev, .int .i64 r.id, .int .i64 r.fid, .string (T r.path), .string (T r.name), .slice ao ms.length cp]] W (SmSays ms W) from small_any id r _ ms W (HV.out.below h))
  have HBR := Lib.hid (fun (W : World) => show Calls Try.prog 22 #[.agg #[.int .i64 c.dev, .int .i64 c.id, .int .i64 c.fid, .string (T c.path), .string (T c.name)]] W fun e w' => e = .returned (.bool (Ns.brief c)) ∧ Below W.heap.size W w' from brief_any c W)
  have HLI := Lib.hid (fun (W : World) => show Calls Try.prog 19 #[.agg #[.int .i64 k, .int .i64 o.dev, .int .i64 o.id, .int .i64 o.fid, .string (T o.path), .string (T o.name), .int .i64 x.dev, .int .i64 x.id, .int .i64 x.fid, .string (T x.path), .string (T x.name), .int .i64 flag]] W fun e w' => e = .returned (.bool (Ns.brief o && Ns.brief x)) ∧ Below W.heap.size W w' from light_any k o x flag W)
  generalize (Ns.brief o && Ns.brief x) = LI at *
  generalize Ns.brief c = BC at *
  obtain ⟨h0, h1, h2, h3, h4, h5, h6, _⟩ := nb_s HN1.out (Below.refl _ _)
  go_wp2_with fail
  (with_reducible refine (HSM1.out _ (Below.refl _ _)).mono ?_); rintro e w1 ⟨q, rfl, hx, b1⟩
  have HB1 := Lib.hid b1
  clear h0 h1 h2 h3 h4 h5 h6 b1
  cases q
  · clear hx
    go_wp2_with fail
    have HA := Lib.hid (show Calls Try.prog 11 #[] w1 _ from awake_any w1)
    (with_reducible refine HA.out.mono ?_); rintro e w9 ⟨rfl, b9⟩
    have HB9 := Lib.hid (HBF.out _ (bnext HB1.out b9))
    clear b9
    go_wp2_with fail
    go_ret
    exact ⟨rfl, HB9.out⟩
  obtain ⟨hl, hu'⟩ := hx rfl
  have hu : ∀ m ∈ ms, m.to.length ≤ 1000000 := fun m hm => by have := hu' m hm; omega
  clear hx
  obtain ⟨o0, o1, o2, o3, o4, o5, o6, o7, o8, o9, o10, o11⟩ := ob_s HN2.out HB1.out
  go_wp2_with fail
  (with_reducible refine (HLI.out _).mono ?_); rintro e w2 ⟨rfl, b2⟩
  have HB2 := Lib.hid (bnext HB1.out b2)
  clear o0 o1 o2 o3 o4 o5 o6 o7 o8 o9 o10 o11 b2
  cases LI
  ·
    go_wp2_with fail
    have HA := Lib.hid (show Calls Try.prog 11 #[] w2 _ from awake_any w2)
    (with_reducible refine HA.out.mono ?_); rintro e w9 ⟨rfl, b9⟩
    have HB9 := Lib.hid (HBF.out _ (bnext HB2.out b9))
    clear b9
    go_wp2_with fail
    go_ret
    exact ⟨rfl, HB9.out⟩
  obtain ⟨k0, k1, k2, k3, k4⟩ := cb_s HN3.out HB2.out
  go_wp2_with fail
  (with_reducible refine (HBR.out _).mono ?_); rintro e w3 ⟨rfl, b3⟩
  have HB3 := Lib.hid (bnext HB2.out b3)
  clear k0 k1 k2 k3 k4 b3
  cases BC
  ·
    go_wp2_with fail
    have HA := Lib.hid (show Calls Try.prog 11 #[] w3 _ from awake_any w3)
    (with_reducible refine HA.out.mono ?_); rintro e w9 ⟨rfl, b9⟩
    have HB9 := Lib.hid (HBF.out _ (bnext HB3.out b9))
    clear b9
    go_wp2_with fail
    go_ret
    exact ⟨rfl, HB9.out⟩
  obtain ⟨R, hR⟩ : ∃ R, Ns.right id r ms = R := ⟨_, rfl⟩
  have HRR := Lib.hid (fun (W : World) (h : Below W0.heap.size W0 W) => show Calls Try.prog 13 #[.agg #[.int .i64 id, .int .i64 r.dev, .int .i64 r.id, .int .i64 r.fid, .string (T r.path), .string (T r.name), .slice ao ms.length cp]] W fun e w' => e = .returned (.bool R) ∧ Below W.heap.size W w' from (rmright_any id r _ ms W (HV.out.below h) (by omega) hu).mono fun e w' h' => ⟨by rw [← hR]; exact h'.1, h'.2⟩)
  obtain ⟨⟨M, E⟩, hME⟩ : ∃ p, Ns.call k ms o x flag = p := ⟨_, rfl⟩
  obtain ⟨⟨U, B⟩, hU⟩ : ∃ p, Ns.union ms c = p := ⟨_, rfl⟩
  have HDI := Lib.hid (fun (W : World) (h : Below W0.heap.size W0 W) => show Calls Try.prog 20 #[.agg #[.int .i64 id, .int .i64 r.dev, .int .i64 r.id, .int .i64 r.fid, .string (T r.path), .string (T r.name), .slice ao ms.length cp], .agg #[.int .i64 k, .int .i64 o.dev, .int .i64 o.id, .int .i64 o.fid, .string (T o.path), .string (T o.name), .int .i64 x.dev, .int .i64 x.id, .int .i64 x.fid, .string (T x.path), .string (T x.name), .int .i64 flag]] W (NsErr (fun _ => True) id r (M, E) W) from by
    rw [← hME]; exact did_any (fun _ => True) id r _ ms k o x flag W (HV.out.below h) (fun _ _ => trivial) (by omega) (fun m hm => by have := hu' m hm; omega) hfl)
  have HUP := Lib.hid (fun (W : World) (h : Below W0.heap.size W0 W) => show Calls Try.prog 23 #[.agg #[.int .i64 id, .int .i64 r.dev, .int .i64 r.id, .int .i64 r.fid, .string (T r.path), .string (T r.name), .slice ao ms.length cp], .agg #[.int .i64 c.dev, .int .i64 c.id, .int .i64 c.fid, .string (T c.path), .string (T c.name)]] W (UnSays (U, B) W) from by rw [← hU]; exact munion_any id r _ ms c W (HV.out.below h) (by omega) hu)
  have HUA := Lib.hid (fun (hr : R = true) (hs : ¬ (c.dev = o.dev ∧ c.id = o.id)) (a6 : Option Addr) (n6 c6 : Nat) (W : World) (h : Mnts W (.slice a6 n6 c6) M) => show Calls Try.prog 23 #[.agg #[.int .i64 id, .int .i64 r.dev, .int .i64 r.id, .int .i64 r.fid, .string (T r.path), .string (T r.name), .slice a6 n6 c6], .agg #[.int .i64 c.dev, .int .i64 c.id, .int .i64 c.fid, .string (T c.path), .string (T c.name)]] W (UnSays (U, B) W) from by
    have hr' := Ns.right_true (hR.trans hr)
    have hr6 := Ns.right_iff.1 (Ns.right_call hr' k o x flag)
    have hfar := Ns.union_call_far k ms (c := c) (x := x) flag (show Ns.same o c = false from by
      cases hq : Ns.same o c
      · rfl
      · exact absurd (show c.dev = o.dev ∧ c.id = o.id from ⟨(Ns.same_iff.1 hq).1.symm, (Ns.same_iff.1 hq).2.symm⟩) hs)
    rw [hME] at hr6 hfar
    rw [← hU, ← hfar]
    exact munion_any id r _ M c W h (by have := hr6.2.2.2.1; simp only at this; omega) (fun m hm => by have := (hr6.2.2.2.2.1 m hm).2.2.1; omega))
  have hul : U.length ≤ 1000000 := by
    have hq : (Ns.union ms c).1.length ≤ 1000000 := by
      unfold Ns.union
      split
      · simp
      · rename_i m hm
        split
        · simp
        · exact hu m (List.mem_of_getElem? hm)
    rw [hU] at hq; exact hq
  have HEQ := Lib.hid (fun (x y : Value) (W : World) (h1 : Tgts W x U) (h2 : Tgts W y U) => show Calls Try.prog 25 #[x, y] W fun e w' => e = .returned (.bool true) ∧ Below W.heap.size W w' from equ_any x y U W h1 h2 hul)
  clear hu' hu hul hl hU hR hME
  obtain ⟨h0, h1, h2, h3, h4, h5, h6, _⟩ := nb_s HN1.out HB3.out
  go_wp2_with fail
  (with_reducible refine (HRR.out _ HB3.out).mono ?_); rintro e w4 ⟨rfl, b4⟩
  have HB4 := Lib.hid (bnext HB3.out b4)
  clear h0 h1 h2 h3 h4 h5 h6 b4
  cases R
  ·
    go_wp2_with fail
    have HA := Lib.hid (show Calls Try.prog 11 #[] w4 _ from awake_any w4)
    (with_reducible refine HA.out.mono ?_); rintro e w9 ⟨rfl, b9⟩
    have HB9 := Lib.hid (HBF.out _ (bnext HB4.out b9))
    clear b9
    go_wp2_with fail
    go_ret
    exact ⟨rfl, HB9.out⟩
  replace HUA := Lib.hid (HUA.out rfl)
  clear HRR HLI HBR HSM1
  obtain ⟨h0, h1, h2, h3, h4, h5, h6, _⟩ := nb_s HN1.out HB4.out
  obtain ⟨o0, o1, o2, o3, o4, o5, o6, o7, o8, o9, o10, o11⟩ := ob_s HN2.out HB4.out
  obtain ⟨k0, k1, k2, k3, k4⟩ := cb_s HN3.out HB4.out
  generalize c.dev = cd at *
  generalize c.id = ci at *
  generalize o.dev = od at *
  generalize o.id = oi at *
  by_cases hd : cd = od
  · subst hd
    by_cases hi : ci = oi
    · subst hi
      go_wp2_with fail
      have HA := Lib.hid (show Calls Try.prog 11 #[] w4 _ from awake_any w4)
      (with_reducible refine HA.out.mono ?_); rintro e w9 ⟨rfl, b9⟩
      have HB9 := Lib.hid (HBF.out _ (bnext HB4.out b9))
      clear b9
      go_wp2_with fail
      go_ret
      exact ⟨rfl, HB9.out⟩
    · replace HUA := Lib.hid (HUA.out (fun h => hi h.2))
      go_upto_region 3 with fail
      go_wp2_with fail
      (with_reducible refine (HDI.out _ HB4.out).mono ?_); rintro e w6 ⟨a6, n6, c6, rfl, hm6, b6⟩
      unfold nsv
      have HB6 := Lib.hid (bnext HB4.out b6)
      have HM6 := Lib.hid hm6.mnts
      clear h0 h1 h2 h3 h4 h5 h6 b6 hm6
      clear o0 o1 o2 o3 o4 o5 o6 o7 o8 o9 o10 o11
      clear k0 k1 k2 k3 k4
      go_upto_region 4 with fail
      have HX := Lib.hid (heap_alloc_new w6 (.cells #[.int .i64 id, .int .i64 r.dev, .int .i64 r.id, .int .i64 r.fid, .string (T r.path), .string (T r.name), .slice a6 n6 c6] 26 (0, 0)))
      replace HM6 := Lib.hid (HM6.out.below ((Below.refl _ _).alloc (Nat.le_refl _) (.cells #[.int .i64 id, .int .i64 r.dev, .int .i64 r.id, .int .i64 r.fid, .string (T r.path), .string (T r.name), .slice a6 n6 c6] 26 (0, 0))))
      replace HB6 := Lib.hid (HB6.out.alloc HB6.out.size (.cells #[.int .i64 id, .int .i64 r.dev, .int .i64 r.id, .int .i64 r.fid, .string (T r.path), .string (T r.name), .slice a6 n6 c6] 26 (0, 0)))
      generalize w6.alloc _ = W6 at *
      generalize w6.heap.size = g6 at HX ⊢
      obtain ⟨h0, h1, h2, h3, h4, h5, h6, _⟩ := nb_s HN1.out HB6.out
      obtain ⟨k0, k1, k2, k3, k4⟩ := ch_reads ((HB6.out.block _ (row_lt HN3.out)).trans HN3.out)
      go_wp2_with fail
      (with_reducible refine (HUP.out _ HB6.out).mono ?_); rintro e w7 ⟨a7, n7, c7, rfl, ht7, b7⟩
      have HB7 := Lib.hid (bnext HB6.out b7)
      have HT7 := Lib.hid ht7
      replace HM6 := Lib.hid (HM6.out.below b7)
      clear h0 h1 h2 h3 h4 h5 h6 ht7
      clear k0 k1 k2 k3 k4
      obtain ⟨h0, h1, h2, h3, h4, h5, h6, _⟩ := nb_s HX.out b7
      clear b7
      obtain ⟨k0, k1, k2, k3, k4⟩ := ch_reads ((HB7.out.block _ (row_lt HN3.out)).trans HN3.out)
      go_wp2_with fail
      (with_reducible refine (HUA.out _ _ _ _ HM6.out).mono ?_); rintro e w8 ⟨a8, n8, c8, rfl, ht8, b8⟩
      have HB8 := Lib.hid (bnext HB7.out b8)
      replace HT7 := Lib.hid (HT7.out.below b8)
      have HT8 := Lib.hid ht8
      clear h0 h1 h2 h3 h4 h5 h6 ht8 b8
      clear k0 k1 k2 k3 k4
      go_wp2_with fail
      (with_reducible refine (HEQ.out _ _ _ HT7.out HT8.out).mono ?_); rintro e w10 ⟨rfl, b10⟩
      have HB10 := Lib.hid (bnext HB8.out b10)
      clear b10
      cases B
      all_goals
        go_wp2_with fail
        have HA := Lib.hid (show Calls Try.prog 11 #[] w10 _ from awake_any w10)
        (with_reducible refine HA.out.mono ?_); rintro e w9 ⟨rfl, b9⟩
        have HB9 := Lib.hid (HBF.out _ (bnext HB10.out b9))
        clear b9
        go_wp2_with fail
        go_ret
        exact ⟨rfl, HB9.out⟩
  · replace HUA := Lib.hid (HUA.out (fun h => hd h.1))
    go_upto_region 3 with fail
    go_wp2_with fail
    (with_reducible refine (HDI.out _ HB4.out).mono ?_); rintro e w6 ⟨a6, n6, c6, rfl, hm6, b6⟩
    unfold nsv
    have HB6 := Lib.hid (bnext HB4.out b6)
    have HM6 := Lib.hid hm6.mnts
    clear h0 h1 h2 h3 h4 h5 h6 b6 hm6
    clear o0 o1 o2 o3 o4 o5 o6 o7 o8 o9 o10 o11
    clear k0 k1 k2 k3 k4
    go_upto_region 4 with fail
    have HX := Lib.hid (heap_alloc_new w6 (.cells #[.int .i64 id, .int .i64 r.dev, .int .i64 r.id, .int .i64 r.fid, .string (T r.path), .string (T r.name), .slice a6 n6 c6] 26 (0, 0)))
    replace HM6 := Lib.hid (HM6.out.below ((Below.refl _ _).alloc (Nat.le_refl _) (.cells #[.int .i64 id, .int .i64 r.dev, .int .i64 r.id, .int .i64 r.fid, .string (T r.path), .string (T r.name), .slice a6 n6 c6] 26 (0, 0))))
    replace HB6 := Lib.hid (HB6.out.alloc HB6.out.size (.cells #[.int .i64 id, .int .i64 r.dev, .int .i64 r.id, .int .i64 r.fid, .string (T r.path), .string (T r.name), .slice a6 n6 c6] 26 (0, 0)))
    generalize w6.alloc _ = W6 at *
    generalize w6.heap.size = g6 at HX ⊢
    obtain ⟨h0, h1, h2, h3, h4, h5, h6, _⟩ := nb_s HN1.out HB6.out
    obtain ⟨k0, k1, k2, k3, k4⟩ := ch_reads ((HB6.out.block _ (row_lt HN3.out)).trans HN3.out)
    go_wp2_with fail
    (with_reducible refine (HUP.out _ HB6.out).mono ?_); rintro e w7 ⟨a7, n7, c7, rfl, ht7, b7⟩
    have HB7 := Lib.hid (bnext HB6.out b7)
    have HT7 := Lib.hid ht7
    replace HM6 := Lib.hid (HM6.out.below b7)
    clear h0 h1 h2 h3 h4 h5 h6 ht7
    clear k0 k1 k2 k3 k4
    obtain ⟨h0, h1, h2, h3, h4, h5, h6, _⟩ := nb_s HX.out b7
    clear b7
    obtain ⟨k0, k1, k2, k3, k4⟩ := ch_reads ((HB7.out.block _ (row_lt HN3.out)).trans HN3.out)
    go_wp2_with fail
    (with_reducible refine (HUA.out _ _ _ _ HM6.out).mono ?_); rintro e w8 ⟨a8, n8, c8, rfl, ht8, b8⟩
    have HB8 := Lib.hid (bnext HB7.out b8)
    replace HT7 := Lib.hid (HT7.out.below b8)
    have HT8 := Lib.hid ht8
    clear h0 h1 h2 h3 h4 h5 h6 ht8 b8
    clear k0 k1 k2 k3 k4
    go_wp2_with fail
    (with_reducible refine (HEQ.out _ _ _ HT7.out HT8.out).mono ?_); rintro e w10 ⟨rfl, b10⟩
    have HB10 := Lib.hid (bnext HB8.out b10)
    clear b10
    cases B
    all_goals
      go_wp2_with fail
      have HA := Lib.hid (show Calls Try.prog 11 #[] w10 _ from awake_any w10)
      (with_reducible refine HA.out.mono ?_); rintro e w9 ⟨rfl, b9⟩
      have HB9 := Lib.hid (HBF.out _ (bnext HB10.out b9))
      clear b9
      go_wp2_with fail
      go_ret
      exact ⟨rfl, HB9.out⟩
end Go.Proofs.Ytganenaaglfdnaa
