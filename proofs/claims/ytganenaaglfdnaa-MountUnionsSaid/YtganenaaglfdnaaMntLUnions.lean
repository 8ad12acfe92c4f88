/- The walk of MountUnions: true, for all inputs. Conditions: the slice holds the given mounts. -/
import Derived.Test.YtganenaaglfdnaaMntLaw
import Derived.Test.YtganenaaglfdnaaMntUnion
import Derived.Test.YtganenaaglfdnaaMntRRight
set_option linter.unusedVariables false
set_option linter.unusedSimpArgs false
namespace Go.Proofs.Ytganenaaglfdnaa
open Go.RowKit

set_option maxRecDepth 20000 in
set_option maxHeartbeats 8000000 in
theorem lunions_any (id : Int) (r : Chn) (v : Value) (ms : List Mnt) (c : Chn) (w : World) (hv : Mnts w v ms) :
    Calls Try.prog 5 #[nsv id r v, chv c] w fun e w' => e = .returned (.bool true) ∧ Below w.heap.size w w' := by
  obtain ⟨ao, n, cp, rfl⟩ := hv.form
  obtain ⟨rfl, hat⟩ := hv.at
  clear hat
  have HB0 := Lib.hid (((Below.refl w.heap.size w).alloc (Nat.le_refl _) (.cells #[.int .i64 id, .int .i64 r.dev, .int .i64 r.id, .int .i64 r.fid, .string (T r.path), .string (T r.name), .slice ao ms.length cp] 26 (0, 0))).alloc (by simp) (.cells #[.int .i64 c.dev, .int .i64 c.id, .int .i64 c.fid, .string (T c.path), .string (T c.name)] 23 (0, 0)))
  have HV := Lib.hid (hv.below HB0.out)
  clear hv
  unfold nsv chv
  go_enter Try.func5, Try.ntmps5
  go_upto_region 1 with fail
  obtain ⟨hr0, hr1, hb0⟩ := mafter2 (w := w) (A := .cells #[.int .i64 id, .int .i64 r.dev, .int .i64 r.id, .int .i64 r.fid, .string (T r.path), .string (T r.name), .slice ao ms.length cp] 26 (0, 0)) (B := .cells #[.int .i64 c.dev, .int .i64 c.id, .int .i64 c.fid, .string (T c.path), .string (T c.name)] 23 (0, 0)) (Below.refl _ _)
  generalize (w.alloc _).alloc _ = W0 at *
  have HBF := Lib.hid (show ∀ W, Below W0.heap.size W0 W → Below w.heap.size w W from fun W h => bnext HB0.out h)
  clear hb0 HB0
  generalize w.heap.size = gn at hr0 hr1 ⊢
  have HN1 := Lib.hid hr0
  have HN2 := Lib.hid hr1
  clear hr0 hr1
  have HSM1 := Lib.hid (fun (W : World) (h : Below W0.heap.size W0 W) => show Calls Try.prog 10 #[.agg #[.int .i64 id, .int .i64 r.dev, .int .i64 r.id, .int .i64 r.fid, .string (T r.path), .string (T r.name), .slice ao ms.length cp]] W (SmSays ms W) from small_any id r _ ms W (HV.out.below h))
  have HBR := Lib.hid (fun (W : World) => show Calls Try.prog 22 #[.agg #[.int .i64 c.dev, .int .i64 c.id, .int .i64 c.fid, .string (T c.path), .string (T c.name)]] W fun e w' => e = .returned (.bool (Ns.brief c)) ∧ Below W.heap.size W w' from brief_any c W)
  obtain ⟨h0, h1, h2, h3, h4, h5, h6, _⟩ := nb_s HN1.out (Below.refl _ _)
  go_wp2_with fail
  (with_reducible refine (HSM1.out _ (Below.refl _ _)).mono ?_); rintro e w1 ⟨x, rfl, hx, b1⟩
  have HB1 := Lib.hid b1
  clear h0 h1 h2 h3 h4 h5 h6 b1
  cases x
  · clear hx
    go_wp2_with fail
    have HA := Lib.hid (show Calls Try.prog 11 #[] w1 _ from awake_any w1)
    (with_reducible refine HA.out.mono ?_); rintro e w9 ⟨rfl, b9⟩
    have HB9 := Lib.hid (HBF.out _ (bnext HB1.out b9))
    clear b9
    go_wp2_with fail
    go_ret
    exact ⟨rfl, HB9.out⟩
  obtain ⟨hl, hu'⟩ := hx rfl
  have hu : ∀ m ∈ ms, m.to.length ≤ 1000000 := fun m hm => by have := hu' m hm; omega
  have hul : (Ns.union ms c).1.length ≤ 1000000 := by
    unfold Ns.union
    split
    · simp
    · rename_i m hm
      split
      · simp
      · exact hu m (List.mem_of_getElem? hm)
  clear hx hu'
  obtain ⟨k0, k1, k2, k3, k4⟩ := cb_s HN2.out HB1.out
  go_wp2_with fail
  (with_reducible refine (HBR.out _).mono ?_); rintro e w2 ⟨rfl, b2⟩
  have HB2 := Lib.hid (bnext HB1.out b2)
  clear k0 k1 k2 k3 k4 b2
  cases hbr : Ns.brief c
  · clear hbr
    go_wp2_with fail
    have HA := Lib.hid (show Calls Try.prog 11 #[] w2 _ from awake_any w2)
    (with_reducible refine HA.out.mono ?_); rintro e w9 ⟨rfl, b9⟩
    have HB9 := Lib.hid (HBF.out _ (bnext HB2.out b9))
    clear b9
    go_wp2_with fail
    go_ret
    exact ⟨rfl, HB9.out⟩
  clear hbr
  obtain ⟨R, hR⟩ : ∃ R, Ns.right id r ms = R := ⟨_, rfl⟩
  have HRR := Lib.hid (fun (W : World) (h : Below W0.heap.size W0 W) => show Calls Try.prog 13 #[.agg #[.int .i64 id, .int .i64 r.dev, .int .i64 r.id, .int .i64 r.fid, .string (T r.path), .string (T r.name), .slice ao ms.length cp]] W fun e w' => e = .returned (.bool R) ∧ Below W.heap.size W w' from (rmright_any id r _ ms W (HV.out.below h) (by omega) hu).mono fun e w' h' => ⟨by rw [← hR]; exact h'.1, h'.2⟩)
  obtain ⟨⟨U, B⟩, hU⟩ : ∃ p, Ns.union ms c = p := ⟨_, rfl⟩
  have HUP := Lib.hid (fun (W : World) (h : Below W0.heap.size W0 W) => show Calls Try.prog 23 #[.agg #[.int .i64 id, .int .i64 r.dev, .int .i64 r.id, .int .i64 r.fid, .string (T r.path), .string (T r.name), .slice ao ms.length cp], .agg #[.int .i64 c.dev, .int .i64 c.id, .int .i64 c.fid, .string (T c.path), .string (T c.name)]] W (UnSays (U, B) W) from by rw [← hU]; exact munion_any id r _ ms c W (HV.out.below h) (by omega) hu)
  have HUR := Lib.hid (fun (W : World) (h : Below W0.heap.size W0 W) => show Calls Try.prog 24 #[.agg #[.int .i64 id, .int .i64 r.dev, .int .i64 r.id, .int .i64 r.fid, .string (T r.path), .string (T r.name), .slice ao ms.length cp], .agg #[.int .i64 c.dev, .int .i64 c.id, .int .i64 c.fid, .string (T c.path), .string (T c.name)]] W (UnSays (U, B) W) from by rw [← hU]; exact rmunion_any id r _ ms c W (HV.out.below h) (by omega))
  rw [hU] at hul
  have HEQ := Lib.hid (fun (x y : Value) (W : World) (h1 : Tgts W x U) (h2 : Tgts W y U) => show Calls Try.prog 25 #[x, y] W fun e w' => e = .returned (.bool true) ∧ Below W.heap.size W w' from equ_any x y U W h1 h2 hul)
  clear hu hR hl hU hul
  obtain ⟨h0, h1, h2, h3, h4, h5, h6, _⟩ := nb_s HN1.out HB2.out
  go_wp2_with fail
  (with_reducible refine (HRR.out _ HB2.out).mono ?_); rintro e w3 ⟨rfl, b3⟩
  have HB3 := Lib.hid (bnext HB2.out b3)
  clear h0 h1 h2 h3 h4 h5 h6 b3
  cases R
  ·
    go_wp2_with fail
    have HA := Lib.hid (show Calls Try.prog 11 #[] w3 _ from awake_any w3)
    (with_reducible refine HA.out.mono ?_); rintro e w9 ⟨rfl, b9⟩
    have HB9 := Lib.hid (HBF.out _ (bnext HB3.out b9))
    clear b9
    go_wp2_with fail
    go_ret
    exact ⟨rfl, HB9.out⟩
  obtain ⟨h0, h1, h2, h3, h4, h5, h6, _⟩ := nb_s HN1.out HB3.out
  obtain ⟨k0, k1, k2, k3, k4⟩ := cb_s HN2.out HB3.out
  go_wp2_with fail
  (with_reducible refine (HUP.out _ HB3.out).mono ?_); rintro e w4 ⟨a4, n4, c4, rfl, ht4, b4⟩
  have HB4 := Lib.hid (bnext HB3.out b4)
  have HT4 := Lib.hid ht4
  clear h0 h1 h2 h3 h4 h5 h6 b4 ht4
  clear k0 k1 k2 k3 k4
  obtain ⟨h0, h1, h2, h3, h4, h5, h6, _⟩ := nb_s HN1.out HB4.out
  obtain ⟨k0, k1, k2, k3, k4⟩ := cb_s HN2.out HB4.out
  go_wp2_with fail
  (with_reducible refine (HUR.out _ HB4.out).mono ?_); rintro e w5 ⟨a5, n5, c5, rfl, ht5, b5⟩
  have HB5 := Lib.hid (bnext HB4.out b5)
  have HT5 := Lib.hid ht5
  replace HT4 := Lib.hid (HT4.out.below b5)
  clear h0 h1 h2 h3 h4 h5 h6 b5 ht5
  clear k0 k1 k2 k3 k4
  go_wp2_with fail
  (with_reducible refine (HEQ.out _ _ _ HT4.out HT5.out).mono ?_); rintro e w6 ⟨rfl, b6⟩
  have HB6 := Lib.hid (bnext HB5.out b6)
  clear b6
  cases B
  all_goals
    go_wp2_with fail
    have HA := Lib.hid (show Calls Try.prog 11 #[] w6 _ from awake_any w6)
    (with_reducible refine HA.out.mono ?_); rintro e w9 ⟨rfl, b9⟩
    have HB9 := Lib.hid (HBF.out _ (bnext HB6.out b9))
    clear b9
    go_wp2_with fail
    go_ret
    exact ⟨rfl, HB9.out⟩
end Go.Proofs.Ytganenaaglfdnaa
