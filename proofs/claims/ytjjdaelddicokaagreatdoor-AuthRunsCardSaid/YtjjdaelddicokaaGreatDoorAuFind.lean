/- What attr.index, attr.Find and the reference's Find return. Conditions: the slice holds the given list; at most 10^6 attributes. -/
import Derived.Test.YtjjdaelddicokaaGreatDoorAuRows
set_option linter.unusedVariables false
set_option linter.unusedSimpArgs false
namespace Go.Proofs.YtjjdaelddicokaaGreatDoor
open Go.RowKit
open Au (Att)
set_option maxHeartbeats 1000000 in
theorem aindex_any (v : Value) (l : List Att) (n : List UInt8) (w : World) (hv : Atts w v l) (hl : l.length ≤ 1000000) :
    Calls Tryz.prog 65 #[v, .string (T n)] w fun e w' => e = .returned (.int .i64 (Au.idx n l)) ∧ Below w.heap.size w w' := by
  have HC := Lib.hid (nidx_any v l n w.heap.size (w.alloc (.cells #[.string (T n)] 9)) (by rw [cell_of_row _ _ _ _ _ _ (heap_alloc_new _ _)]; rfl) (hv.below ((Below.refl _ _).alloc (Nat.le_refl _) _)) hl)
  have HF := Lib.hid (show Au.ix (Au.isNm n) l = Au.idx n l from rfl)
  clear hv
  go_enter Tryz.func65, Tryz.ntmps65
  go_wp2_with fail
  refine HC.out.mono ?_; rintro e w1 ⟨rfl, h1⟩
  go_wp2_with fail
  go_ret
  exact ⟨by rw [HF.out]; rfl, aafter1 h1⟩
set_option maxHeartbeats 1000000 in
theorem afind_any (v : Value) (l : List Att) (n : List UInt8) (w : World) (hv : Atts w v l) (hl : l.length ≤ 1000000) :
    Calls Tryz.prog 52 #[v, .string (T n)] w fun e w' => e = .returned (.tuple #[.string (T (Au.find n l)), .bool (Au.has n l)]) ∧ Below w.heap.size w w' := by
  have HC := Lib.hid (aindex_any v l n w hv hl)
  have hge := Au.ix_ge (Au.isNm n) l
  by_cases h : Au.idx n l < 0
  · have HF := Lib.hid (Au.find_none h)
    obtain ⟨ao, c, rfl, _⟩ := hv
    go_enter Tryz.func52, Tryz.ntmps52
    go_wp2_with fail
    refine HC.out.mono ?_; rintro e w1 ⟨rfl, h1⟩
    go_wp2_with fail
    go_ret2
    exact ⟨by rw [HF.out.1, HF.out.2]; rfl, h1⟩
  · obtain ⟨k, hk⟩ := Int.eq_ofNat_of_zero_le (show 0 ≤ Au.idx n l by omega)
    obtain ⟨hkl, _⟩ := Au.ix_is hk
    have HF := Lib.hid (Au.find_some hkl hk)
    obtain ⟨ao, c, rfl, _, _, hcell⟩ := hv
    obtain ⟨b, off, rfl, hbl, hc⟩ := hcell k hkl
    have HA := Lib.hid hc
    rw [hk] at HC h
    clear hcell hc hge hk h
    go_enter Tryz.func52, Tryz.ntmps52
    go_wp2_with fail
    refine HC.out.mono ?_; rintro e w1 ⟨rfl, h1⟩
    obtain ⟨d0, d1, d2⟩ := HA.out.below h1 hbl
    go_wp2_with fail
    go_ret2
    exact ⟨by rw [HF.out.1, HF.out.2]; rfl, h1⟩
set_option maxHeartbeats 1000000 in
theorem rafind_any (v : Value) (l : List Att) (n : List UInt8) (w : World) (hv : Atts w v l) (hl : l.length ≤ 1000000) :
    Calls Tryz.prog 42 #[v, .string (T n)] w fun e w' => e = .returned (.tuple #[.string (T (Au.find n l)), .bool (Au.has n l)]) ∧ Below w.heap.size w w' := by
  obtain ⟨ao, cap, rfl, hc, hn, hcell⟩ := hv
  have HC := Lib.hid hcell
  have HI := Lib.hid (fun k hk h0 h1 => Au.find_some hk (Au.ix_at (Au.isNm n) l k hk h0 h1))
  have HN := Lib.hid (fun h => Au.find_none (n := n) (l := l) (by have := Au.ix_none (Au.isNm n) l h; unfold Au.idx; omega))
  have HB0 := Lib.hid (Below.refl w.heap.size w)
  clear hcell hn
  go_enter Tryz.func42, Tryz.ntmps42
  go_wp2_with fail
  go_loop [6] (fun i => ∃ k : Nat, k ≤ l.length ∧ i = .int .i64 (k : Int) ∧ Hid (∀ j (hj : j < k) (hk : k ≤ l.length), ¬ Au.isNm n (l[j]'(by omega)) = true)) (fun i => l.length - (intOf i).toNat)
  case atStart => exact ⟨0, by omega, rfl, (fun j hj => by omega)⟩
  case round =>
    obtain ⟨k, hk, rfl, hn⟩ := hrel
    by_cases hlt : k < l.length
    · obtain ⟨b, off, rfl, hbl, cc⟩ := HC.out k hlt
      have HIK := Lib.hid (fun h0 h1 => HI.out k hlt h0 h1)
      have HNX := Lib.hid (show (¬ Au.isNm n l[k] = true) → ∀ j (hj : j < k + 1) (hk : k + 1 ≤ l.length), ¬ Au.isNm n (l[j]'(by omega)) = true from fun he j hj hk' => by
          rcases Nat.lt_or_ge j k with h | h
          · exact hn.out j h (by omega)
          · obtain rfl : j = k := by omega
            exact he)
      generalize l[k] = at_ at *
      obtain ⟨nm, va, q⟩ := at_
      obtain ⟨d0, d1, d2⟩ := cc
      simp only at d0 d1 d2
      by_cases he : nm = n
      · have e1 := seq_yes he
        cases q with
        | false =>
          have HF := Lib.hid (HIK.out (fun j hj => hn.out j hj (by omega)) (by simp [Au.isNm, he]))
          clear HIK HNX he
          go_wp2_with fail
          go_ret2
          exact ⟨by rw [HF.out.1, HF.out.2]; rfl, HB0.out⟩
        | true =>
          have HF := Lib.hid (HNX.out (by simp [Au.isNm]))
          clear HIK HNX he
          go_wp2_with fail
          go_round
          case rel => exact ⟨k + 1, by omega, by go_num, HF⟩
          case measure => simp [intOf]; omega
      · have e1 := seq_no he
        have HF := Lib.hid (HNX.out (by simp [Au.isNm, he]))
        clear HIK HNX he
        go_wp2_with fail
        go_round
        case rel => exact ⟨k + 1, by omega, by go_num, HF⟩
        case measure => simp [intOf]; omega
    · obtain rfl : k = l.length := by omega
      have HF := Lib.hid (HN.out (fun j hj => hn.out j hj (Nat.le_refl _)))
      go_wp2_with fail
      go_ret2
      exact ⟨by rw [HF.out.1, HF.out.2]; rfl, HB0.out⟩
end Go.Proofs.YtjjdaelddicokaaGreatDoor
