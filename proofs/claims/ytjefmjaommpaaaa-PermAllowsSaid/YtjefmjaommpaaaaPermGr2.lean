/- The walk of the law PermGrants. Conditions: the list holds the given users; the numbers are ints. -/
import Derived.Test.YtjefmjaommpaaaaPermGr
set_option linter.unusedVariables false
set_option linter.unusedSimpArgs false
namespace Go.Proofs.Ytjefmjaommpaaaa
open Go.RowKit
set_option maxRecDepth 100000 in
set_option maxHeartbeats 4000000 in
theorem pgrants_in (v : Value) (us : List Usr) (nm uid gid : ByteArray) (m wt : Nat) (x0 x1 : Int) (w : World) (hv : Usrs w v us) (hl : us.length ≤ 9223372036854775807)
    (hf : fewB us = true) (hm : m ≤ 511) (hwt : wt ≤ 7) :
    Calls Try.prog 7 #[v, .agg #[.string nm, .string uid, .string gid, .int .i64 m, .int .i64 wt], .agg #[.int .i64 x0, .int .i64 x1]] w fun e w' => e = .returned (.bool true) ∧ Below w.heap.size w w' := by
  have HW := Lib.hid (fun w' (hb : Below w.heap.size w w') => few_any v us w' (hv.below hb) hl)
  have HB0 := Lib.hid (fun o => (Below.refl w.heap.size w).alloc (Nat.le_refl _) o)
  obtain ⟨f1, f2⟩ := fewB_true hf
  rw [hf] at HW
  have HV := Lib.hid hv
  have F1 := Lib.hid f1
  have F2 := Lib.hid f2
  clear hf f1 f2 hv hl
  obtain ⟨y, hy⟩ := Prm.i64_and_any wt (by omega) x1
  obtain ⟨e, he⟩ : ∃ e : Nat, x0 % 512 = (e : Int) := ⟨(x0 % 512).toNat, by omega⟩
  have he5 : e < 512 := by omega
  have hor : m ||| e < 512 := Nat.or_lt_two_pow (n := 9) (by omega) (by omega)
  have hle : wt &&& y ≤ wt := Nat.and_le_left
  have HMORE := Lib.hid (show bits .or .i64 (m : Int) (bits .and .i64 x0 511) = ((m ||| e : Nat) : Int) from by rw [Prm.i64_and511, he, i64_or_nat _ _ (by omega) (by omega)])
  have HLESS := Lib.hid (show bits .and .i64 (wt : Int) x1 = ((wt &&& y : Nat) : Int) from hy)
  have HLOW := Lib.hid (show bits .and .i64 (m : Int) 7 = ((m % 8 : Nat) : Int) from by
    have := i64_and_nat m 7 (by omega) (by omega)
    rw [show m &&& 7 = m % 8 from nat_mask3 m] at this; exact this)
  have GM := Lib.hid (fun mb ow h => Prm.grants_more (mb := mb) (ow := ow) (m := m) (wt := wt) (e := e) hwt h)
  have GL := Lib.hid (fun mb ow h => Prm.grants_less (mb := mb) (ow := ow) (m := m) (wt := wt) (y := y) hwt h)
  have GW := Lib.hid (fun mb ow => Prm.grants_low (mb := mb) (ow := ow) (m := m))
  have GO := Lib.hid (fun mb => Prm.grants_own (mb := mb) hm)
  have hi : (m : Int) ≤ 511 ∧ (wt : Int) ≤ 7 := by omega
  have hdiv : (m : Int) / 64 = ((m / 64 : Nat) : Int) := by omega
  have HDIV := Lib.hid hdiv
  have HOR := Lib.hid hor
  have HLE := Lib.hid hle
  have HWT := Lib.hid hwt
  have HMM := Lib.hid hm
  clear hy he hor hle hdiv he5 hm hwt
  go_enter Try.func7, Try.ntmps7
  go_wp2_with fail
  refine (HW.out _ ((HB0.out _).alloc (by simp) _)).mono ?_; rintro e' w1 ⟨rfl, rfl⟩
  have hb0 := (HB0.out (.cells #[.string nm, .string uid, .string gid, .int .i64 m, .int .i64 wt] 34)).alloc (by simp) (.cells #[.int .i64 x0, .int .i64 x1] 38)
  have hrow := (heap_alloc_old (w.alloc (.cells #[.string nm, .string uid, .string gid, .int .i64 m, .int .i64 wt] 34)) (.cells #[.int .i64 x0, .int .i64 x1] 38) (r := w.heap.size) (by simp)).trans (heap_alloc_new w (.cells #[.string nm, .string uid, .string gid, .int .i64 m, .int .i64 wt] 34))
  have hrow2 : ((w.alloc (.cells #[.string nm, .string uid, .string gid, .int .i64 m, .int .i64 wt] 34)).alloc (.cells #[.int .i64 x0, .int .i64 x1] 38)).heap[w.heap.size + 1]? = some (.cells #[.int .i64 x0, .int .i64 x1] 38) := by
    have := heap_alloc_new (w.alloc (.cells #[.string nm, .string uid, .string gid, .int .i64 m, .int .i64 wt] 34)) (.cells #[.int .i64 x0, .int .i64 x1] 38)
    rwa [show (w.alloc (.cells #[.string nm, .string uid, .string gid, .int .i64 m, .int .i64 wt] 34)).heap.size = w.heap.size + 1 from by simp] at this
  generalize (w.alloc (.cells #[.string nm, .string uid, .string gid, .int .i64 m, .int .i64 wt] 34)).alloc (.cells #[.int .i64 x0, .int .i64 x1] 38) = w0 at *
  have g0 : w0.cell? ⟨w.heap.size, 0, none⟩ = some (.string nm) := by rw [cell_of_row _ _ _ _ _ _ hrow]; rfl
  have g1 : w0.cell? ⟨w.heap.size, 1, none⟩ = some (.string uid) := by rw [cell_of_row _ _ _ _ _ _ hrow]; rfl
  have g2 : w0.cell? ⟨w.heap.size, 2, none⟩ = some (.string gid) := by rw [cell_of_row _ _ _ _ _ _ hrow]; rfl
  have g3 : w0.cell? ⟨w.heap.size, 3, none⟩ = some (.int .i64 m) := by rw [cell_of_row _ _ _ _ _ _ hrow]; rfl
  have g4 : w0.cell? ⟨w.heap.size, 4, none⟩ = some (.int .i64 wt) := by rw [cell_of_row _ _ _ _ _ _ hrow]; rfl
  have g5 : w0.cell? ⟨w.heap.size + 1, 0, none⟩ = some (.int .i64 x0) := by rw [cell_of_row _ _ _ _ _ _ hrow2]; rfl
  have g6 : w0.cell? ⟨w.heap.size + 1, 1, none⟩ = some (.int .i64 x1) := by rw [cell_of_row _ _ _ _ _ _ hrow2]; rfl
  have HBW := Lib.hid hb0
  have hv0 := HV.out.below hb0
  have hB : w.heap.size < w0.heap.size := block_lt_of_cell g0
  have HAL := Lib.hid (allows_held v us nm uid gid m wt w.heap.size w0 hv0 hB F1.out F2.out)
  have A1 := Lib.hid (HAL.out m wt (by have := HMM.out; omega))
  have A2 := Lib.hid (HAL.out ((m ||| e : Nat) : Int) wt (by have := HOR.out; omega))
  have A3 := Lib.hid (HAL.out m ((wt &&& y : Nat) : Int) (by have := HMM.out; omega))
  have A4 := Lib.hid (HAL.out m ((m % 8 : Nat) : Int) (by have := HMM.out; omega))
  have A5 := Lib.hid (HAL.out m ((m / 64 : Nat) : Int) (by have := HMM.out; omega))
  rw [Prm.alw_nat HWT.out] at A1 A2
  rw [Prm.alw_nat (Nat.le_trans HLE.out HWT.out)] at A3
  rw [Prm.alw_nat (by omega)] at A4
  rw [Prm.alw_nat (by have := HMM.out; omega)] at A5
  rw [GW.out, ← HLOW.out] at A4
  rw [← HDIV.out] at A5
  have hbr := Lib.hid (Below.refl w0.heap.size w0)
  clear hb0 hrow hrow2 hv0 hB HAL HV
  go_upto_region 3 with fail
  go_cut [7, 8] (fun a b w' => (a = .int .i64 ((m ||| e : Nat) : Int) ∧ b = .int .i64 ((wt &&& y : Nat) : Int)) ∧ ∃ n, w' = w0.drewN n)
  case first =>
    go_quiet (fail)
    go_wp2_with fail
    go_meet
    exact ⟨⟨by rw [HMORE.out], by rw [HLESS.out]⟩, _, rfl⟩
  case rest =>
    obtain ⟨⟨rfl, rfl⟩, n, rfl⟩ := hcut
    have k0 : (w0.drewN n).cell? ⟨w.heap.size, 0, none⟩ = some (.string nm) := g0
    have k1 : (w0.drewN n).cell? ⟨w.heap.size, 1, none⟩ = some (.string uid) := g1
    have k2 : (w0.drewN n).cell? ⟨w.heap.size, 2, none⟩ = some (.string gid) := g2
    have k3 : (w0.drewN n).cell? ⟨w.heap.size, 3, none⟩ = some (.int .i64 m) := g3
    have k4 : (w0.drewN n).cell? ⟨w.heap.size, 4, none⟩ = some (.int .i64 wt) := g4
    have hb := below_drewN hbr.out n
    clear g0 g1 g2 g3 g4 g5 g6
    generalize w0.drewN n = wq at *
    have K := Lib.hid (⟨⟨k0, k1, k2, k3, k4⟩, hb⟩ : (_ ∧ _ ∧ _ ∧ _ ∧ _) ∧ _)
    by_cases ho : nm = uid
    · rw [Prm.own_t ho] at A1 A2 A3 A5
      rw [GO.out] at A5
      have eo := str_eq ho
      clear ho hb
      cases hx : Prm.alwN (umem us nm gid) true m wt
      · rw [hx] at A1
        clear hx
        go_wp2_with fail
        refine (A1.out _ K.out).mono ?_; rintro e2 w2 ⟨rfl, ⟨k0, k1, k2, k3, k4⟩, hb⟩
        replace K := Lib.hid (⟨⟨k0, k1, k2, k3, k4⟩, hb⟩ : (_ ∧ _ ∧ _ ∧ _ ∧ _) ∧ _)
        clear hb
        go_wp2_with fail
        refine (A4.out _ K.out).mono ?_; rintro e2 w3 ⟨rfl, ⟨k0, k1, k2, k3, k4⟩, hb⟩
        replace K := Lib.hid (⟨⟨k0, k1, k2, k3, k4⟩, hb⟩ : (_ ∧ _ ∧ _ ∧ _ ∧ _) ∧ _)
        clear hb
        go_wp2_with fail
        refine (A5.out _ K.out).mono ?_; rintro e2 w4 ⟨rfl, ⟨k0, k1, k2, k3, k4⟩, hb⟩
        replace K := Lib.hid (⟨⟨k0, k1, k2, k3, k4⟩, hb⟩ : (_ ∧ _ ∧ _ ∧ _ ∧ _) ∧ _)
        clear hb
        go_wp2_with fail
        refine (alive_any _).mono ?_; rintro e2 w5 ⟨rfl, b9⟩
        go_wp2_with fail
        go_ret
        exact ⟨rfl, HBW.out.trans ((K.out.2.trans (b9.mono K.out.2.size)).mono HBW.out.size)⟩
      · rw [hx] at A1
        rw [GM.out _ _ hx] at A2
        rw [GL.out _ _ hx] at A3
        clear hx
        go_wp2_with fail
        refine (A1.out _ K.out).mono ?_; rintro e2 w2 ⟨rfl, ⟨k0, k1, k2, k3, k4⟩, hb⟩
        replace K := Lib.hid (⟨⟨k0, k1, k2, k3, k4⟩, hb⟩ : (_ ∧ _ ∧ _ ∧ _ ∧ _) ∧ _)
        clear hb
        go_wp2_with fail
        refine (A2.out _ K.out).mono ?_; rintro e2 w3 ⟨rfl, ⟨k0, k1, k2, k3, k4⟩, hb⟩
        replace K := Lib.hid (⟨⟨k0, k1, k2, k3, k4⟩, hb⟩ : (_ ∧ _ ∧ _ ∧ _ ∧ _) ∧ _)
        clear hb
        go_wp2_with fail
        refine (A3.out _ K.out).mono ?_; rintro e2 w4 ⟨rfl, ⟨k0, k1, k2, k3, k4⟩, hb⟩
        replace K := Lib.hid (⟨⟨k0, k1, k2, k3, k4⟩, hb⟩ : (_ ∧ _ ∧ _ ∧ _ ∧ _) ∧ _)
        clear hb
        go_wp2_with fail
        refine (A4.out _ K.out).mono ?_; rintro e2 w5 ⟨rfl, ⟨k0, k1, k2, k3, k4⟩, hb⟩
        replace K := Lib.hid (⟨⟨k0, k1, k2, k3, k4⟩, hb⟩ : (_ ∧ _ ∧ _ ∧ _ ∧ _) ∧ _)
        clear hb
        go_wp2_with fail
        refine (A5.out _ K.out).mono ?_; rintro e2 w6 ⟨rfl, ⟨k0, k1, k2, k3, k4⟩, hb⟩
        replace K := Lib.hid (⟨⟨k0, k1, k2, k3, k4⟩, hb⟩ : (_ ∧ _ ∧ _ ∧ _ ∧ _) ∧ _)
        clear hb
        go_wp2_with fail
        refine (alive_any _).mono ?_; rintro e2 w7 ⟨rfl, b9⟩
        go_wp2_with fail
        go_ret
        exact ⟨rfl, HBW.out.trans ((K.out.2.trans (b9.mono K.out.2.size)).mono HBW.out.size)⟩
    · rw [Prm.own_f ho] at A1 A2 A3
      have eo := str_ne ho
      clear ho hb
      cases hx : Prm.alwN (umem us nm gid) false m wt
      · rw [hx] at A1
        clear hx
        go_wp2_with fail
        refine (A1.out _ K.out).mono ?_; rintro e2 w2 ⟨rfl, ⟨k0, k1, k2, k3, k4⟩, hb⟩
        replace K := Lib.hid (⟨⟨k0, k1, k2, k3, k4⟩, hb⟩ : (_ ∧ _ ∧ _ ∧ _ ∧ _) ∧ _)
        clear hb
        go_wp2_with fail
        refine (A4.out _ K.out).mono ?_; rintro e2 w3 ⟨rfl, ⟨k0, k1, k2, k3, k4⟩, hb⟩
        replace K := Lib.hid (⟨⟨k0, k1, k2, k3, k4⟩, hb⟩ : (_ ∧ _ ∧ _ ∧ _ ∧ _) ∧ _)
        clear hb
        go_wp2_with fail
        refine (alive_any _).mono ?_; rintro e2 w4 ⟨rfl, b9⟩
        go_wp2_with fail
        go_ret
        exact ⟨rfl, HBW.out.trans ((K.out.2.trans (b9.mono K.out.2.size)).mono HBW.out.size)⟩
      · rw [hx] at A1
        rw [GM.out _ _ hx] at A2
        rw [GL.out _ _ hx] at A3
        clear hx
        go_wp2_with fail
        refine (A1.out _ K.out).mono ?_; rintro e2 w2 ⟨rfl, ⟨k0, k1, k2, k3, k4⟩, hb⟩
        replace K := Lib.hid (⟨⟨k0, k1, k2, k3, k4⟩, hb⟩ : (_ ∧ _ ∧ _ ∧ _ ∧ _) ∧ _)
        clear hb
        go_wp2_with fail
        refine (A2.out _ K.out).mono ?_; rintro e2 w3 ⟨rfl, ⟨k0, k1, k2, k3, k4⟩, hb⟩
        replace K := Lib.hid (⟨⟨k0, k1, k2, k3, k4⟩, hb⟩ : (_ ∧ _ ∧ _ ∧ _ ∧ _) ∧ _)
        clear hb
        go_wp2_with fail
        refine (A3.out _ K.out).mono ?_; rintro e2 w4 ⟨rfl, ⟨k0, k1, k2, k3, k4⟩, hb⟩
        replace K := Lib.hid (⟨⟨k0, k1, k2, k3, k4⟩, hb⟩ : (_ ∧ _ ∧ _ ∧ _ ∧ _) ∧ _)
        clear hb
        go_wp2_with fail
        refine (A4.out _ K.out).mono ?_; rintro e2 w5 ⟨rfl, ⟨k0, k1, k2, k3, k4⟩, hb⟩
        replace K := Lib.hid (⟨⟨k0, k1, k2, k3, k4⟩, hb⟩ : (_ ∧ _ ∧ _ ∧ _ ∧ _) ∧ _)
        clear hb
        go_wp2_with fail
        refine (alive_any _).mono ?_; rintro e2 w6 ⟨rfl, b9⟩
        go_wp2_with fail
        go_ret
        exact ⟨rfl, HBW.out.trans ((K.out.2.trans (b9.mono K.out.2.size)).mono HBW.out.size)⟩
theorem pgrants_any (v : Value) (us : List Usr) (nm uid gid : ByteArray) (m wt x0 x1 : Int) (w : World) (hv : Usrs w v us) (hl : us.length ≤ 9223372036854775807) :
    Calls Try.prog 7 #[v, .agg #[.string nm, .string uid, .string gid, .int .i64 m, .int .i64 wt], .agg #[.int .i64 x0, .int .i64 x1]] w fun e w' => e = .returned (.bool true) ∧ Below w.heap.size w w' := by
  by_cases h : fewB us = false ∨ m < 0 ∨ 511 < m ∨ wt < 0 ∨ 7 < wt
  · exact pgrants_bad v us nm uid gid m wt x0 x1 w hv hl h
  · obtain ⟨m', rfl⟩ := Int.eq_ofNat_of_zero_le (show 0 ≤ m by omega)
    obtain ⟨wt', rfl⟩ := Int.eq_ofNat_of_zero_le (show 0 ≤ wt by omega)
    exact pgrants_in v us nm uid gid m' wt' x0 x1 w hv hl (by cases hf : fewB us with | true => rfl | false => exact absurd (.inl hf) h) (by omega) (by omega)
end Go.Proofs.Ytjefmjaommpaaaa
