/- What attr.Check returns. Conditions: at most 10^6 attributes, texts of at most 10^9 bytes. -/
import Derived.Test.YtjjdaelddicokaaGreatDoorAuCheck
import Derived.Deep.RegionHeldLaw
import Derived.Deep.CutBlock
import Derived.Deep.RegionLaw
set_option linter.unusedVariables false
set_option linter.unusedSimpArgs false
namespace Go.Proofs.YtjjdaelddicokaaGreatDoor
open Go.RowKit
open Au (Att)
/-- Texts of moderate length. -/
def Fits (l : List Att) : Prop := ∀ j (h : j < l.length), l[j].name.length ≤ 1000000000 ∧ l[j].value.length ≤ 1000000000
set_option maxRecDepth 20000 in
set_option maxHeartbeats 2000000 in
theorem achk_any (v : Value) (l : List Att) (w : World) (hv : Atts w v l) (hl : l.length ≤ 1000000) (hs : Fits l) :
    Calls Tryz.prog 33 #[v] w fun e w' => e = .returned (.int .i64 (Au.check l)) ∧ Below w.heap.size w w' := by
  have HV := Lib.hid hv
  obtain ⟨ao, cap, rfl, hcap, hn, hcell⟩ := hv
  have HC := Lib.hid hcell
  have HS := Lib.hid hs
  have HA := Lib.hid (Au.check_at l)
  have HN := Lib.hid (Au.check_none l)
  have HB0 := Lib.hid (Below.refl w.heap.size w)
  clear hcell hn hs
  go_enter Tryz.func33, Tryz.ntmps33
  go_wp2_with fail
  go_loopw [8] (fun i wr => ∃ k : Nat, k ≤ l.length ∧ i = .int .i64 (k : Int) ∧ Hid (∀ j (hj : j < k) (hk : k ≤ l.length), Au.one (l.take j) (l[j]'(by omega)) = 0) ∧ Hid (Below w.heap.size w wr)) (fun i _ => l.length - (intOf i).toNat)
  case atStart => exact ⟨0, by omega, rfl, (fun j hj => by omega), HB0⟩
  case round =>
    obtain ⟨k, hk, rfl, hn, HB⟩ := hrel
    by_cases hlt : k < l.length
    · obtain ⟨b, off, rfl, hbl, cc⟩ := HC.out k hlt
      obtain ⟨d0, d1, d2⟩ := ACells.below cc HB.out hbl
      have hki : (k : Int) < (l.length : Int) := by omega
      have hkc : (k : Int) ≤ (cap : Int) := by omega
      have HCL := Lib.hid (fun (W : World) (hb : Below wr.heap.size wr W) => acheck1_any (.slice (some ⟨b, off, none⟩) k cap) (l.take k) l[k].name l[k].value l[k].query W ((HV.out.take (k := k) (by omega)).below (bnext HB.out hb)) (by rw [List.length_take]; omega) (HS.out k hlt).1 (HS.out k hlt).2)
      have HAK := Lib.hid (HA.out k hlt (fun j hj => hn.out j hj (by omega)))
      have HNX := Lib.hid (show Au.one (l.take k) l[k] = 0 → ∀ j (hj : j < k + 1) (hk : k + 1 ≤ l.length), Au.one (l.take j) (l[j]'(by omega)) = 0 from fun he j hj hk' => by
        rcases Nat.lt_or_ge j k with h | h
        · exact hn.out j h (by omega)
        · obtain rfl : j = k := by omega
          exact he)
      have hone : Au.one (l.take k) l[k] = Au.one (l.take k) ⟨l[k].name, l[k].value, l[k].query⟩ := rfl
      rw [hone] at HAK HNX
      generalize Au.one (l.take k) ⟨l[k].name, l[k].value, l[k].query⟩ = E at *
      clear hone cc
      generalize l[k].name = nm at *
      generalize l[k].value = va at *
      generalize l[k].query = q at *
      by_cases he : E = 0
      · have HF := Lib.hid (HNX.out he)
        subst he
        clear HAK HNX
        go_upto_region 4 with fail
        have HBA := Lib.hid ((Below.refl wr.heap.size wr).alloc (Nat.le_refl _) (.cells #[.string (T nm), .string (T va), .bool q] 52))
        go_region_law (go_simp; go_at_call 51; (with_reducible refine (HCL.out _ (below_drew1 HBA.out)).mono ?_); rintro e w1 ⟨rfl, b1⟩)
        have HB1 := Lib.hid (bnext HB.out (bnext (below_drew1 HBA.out) b1))
        clear b1
        go_wp2_with fail
        go_roundw
        case rel => exact ⟨k + 1, by omega, by go_num, HF, HB1⟩
        case measure => simp [intOf]; omega
      · have HF := Lib.hid (HAK.out he)
        clear HAK HNX
        have he1 : (E != 0) = true := by simpa using he
        go_upto_region 4 with fail
        have HBA := Lib.hid ((Below.refl wr.heap.size wr).alloc (Nat.le_refl _) (.cells #[.string (T nm), .string (T va), .bool q] 52))
        go_region_law (go_simp; go_at_call 51; (with_reducible refine (HCL.out _ (below_drew1 HBA.out)).mono ?_); rintro e w1 ⟨rfl, b1⟩)
        have HB1 := Lib.hid (bnext HB.out (bnext (below_drew1 HBA.out) b1))
        clear b1
        go_wp2_with fail
        go_ret
        exact ⟨by rw [HF.out]; rfl, HB1.out⟩
    · obtain rfl : k = l.length := by omega
      have HF := Lib.hid (HN.out (fun j hj => hn.out j hj (Nat.le_refl _)))
      go_wp2_with fail
      go_ret
      exact ⟨by rw [HF.out]; rfl, HB.out⟩
end Go.Proofs.YtjjdaelddicokaaGreatDoor
