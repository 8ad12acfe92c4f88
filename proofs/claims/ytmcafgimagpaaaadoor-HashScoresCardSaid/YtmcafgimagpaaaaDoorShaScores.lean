/- The walk of the law HashScores: true at every number and text. Conditions: the 64 constants in the variable. -/
import Derived.Test.YtmcafgimagpaaaaDoorShaAgree
import Derived.Deep.RegionHeldLaw
set_option linter.unusedVariables false
set_option linter.unusedSimpArgs false
namespace Go.Proofs.YtmcafgimagpaaaaDoor
open Go.RowKit
theorem cell_new1 (wx : World) (E : Int) (c : UInt8) (h : E = (c.toNat : Int)) : (wx.alloc (.cells #[.int .u8 E] 5)).cell? ⟨wx.heap.size, 0, none⟩ = some (.int .u8 (c.toNat : Int)) := by
  rw [h]; exact (cell_of_row _ _ _ _ _ _ (heap_alloc_new wx _)).trans rfl
theorem cell_new2 (wx w2 : World) (E : Int) (c : UInt8) (h : E = (c.toNat : Int)) (hb : Below (wx.alloc (.cells #[.int .u8 E] 5)).heap.size (wx.alloc (.cells #[.int .u8 E] 5)) w2) : w2.cell? ⟨wx.heap.size, 0, none⟩ = some (.int .u8 (c.toNat : Int)) := by
  rw [hb.cell (by simp)]; exact cell_new1 wx E c h
theorem run_conv_one (w : World) (g : Nat) (c : UInt8) (hc : w.cell? ⟨g, 0, none⟩ = some (.int .u8 (c.toNat : Int))) :
    (convert 28 9 (.slice (some ⟨g, 0, none⟩) 1 1)).run Tryd.prog w = .ok (.string (T [c])) w :=
  run_convert_bytes_back w 28 9 5 ⟨g, 0, none⟩ 1 [c] Tryd.underlying28 Tryd.underlying5 Tryd.underlying9 fun j hj => by
    have hj0 : j = 0 := by simpa using hj
    subst hj0
    exact hc
theorem score_byte (n : Int) : IntKind.u8.wrap ((IntKind.i64.wrap (n.tmod 256 + 256)).tmod 256) = ((kb n).toNat : Int) := by
  have h1 : n.tmod 256 % 256 = n % 256 ∧ -256 < n.tmod 256 ∧ n.tmod 256 < 256 := by
    rw [Int.tmod_eq_emod]; split <;> simp <;> omega
  obtain ⟨h1, h2, h3⟩ := h1
  generalize n.tmod 256 = r at *
  rw [IntWalk.i64_in _ (by omega), IntKind.wrap_u8, Int.tmod_eq_emod_of_nonneg (by omega)]
  unfold kb; rw [UInt8.toNat_ofNat']
  omega
set_option maxRecDepth 100000 in
set_option maxHeartbeats 2000000 in
theorem scores_T (n : Int) (s : List UInt8) (w : World) (hK : KIn w) :
    Calls Tryd.prog 5 #[.int .i64 n, .string (T s)] w fun e w' => e = .returned (.bool true) ∧ Below w.heap.size w w' := by
  have HK := Lib.hid hK
  clear hK
  by_cases hbig : 300 < s.length
  · have hi : (300 : Int) < (s.length : Int) := by omega
    go_enter Tryd.func5, Tryd.ntmps5
    go_wp2_with fail
    refine (awake_any _ HK.out).mono ?_; rintro e w1 ⟨rfl, b1⟩
    go_wp2_with fail
    go_ret
    exact ⟨rfl, b1⟩
  · have hi : (s.length : Int) ≤ 300 := by omega
    have b1 : 1 + s.length ≤ 9223372036854775807 := by omega
    have b2 : s.length + 1 ≤ 9223372036854775807 := by omega
    have HS := Lib.hid (fun w' (h : Below w.heap.size w w') => (score_T n s w' (by omega) (HK.out.below h)).mono fun e w'' (h' : e = _ ∧ _) => (⟨h'.1, h.trans (h'.2.mono h.size)⟩ : e = _ ∧ Below w.heap.size w w''))
    have HS2 := Lib.hid (fun (h : Below w.heap.size w (w.drew.alloc (.cells #[.int .u8 (IntKind.u8.wrap ((IntKind.i64.wrap (n.tmod 256 + 256)).tmod 256))] 5))) => (score_T n s _ (by omega) (HK.out.below h)).mono fun e w'' (h' : e = _ ∧ _) => (⟨h'.1, h.trans (h'.2.mono h.size), run_conv_one w'' w.heap.size (kb n) (cell_new2 w.drew w'' _ (kb n) (score_byte n) h'.2)⟩ : e = _ ∧ Below w.heap.size w w'' ∧ (convert 28 9 (.slice (some ⟨w.heap.size, 0, none⟩) 1 1)).run Tryd.prog w'' = .ok (.string (T [kb n])) w''))
    have hcv1 := fun wx : World => run_conv_one (wx.alloc (.cells #[.int .u8 (IntKind.u8.wrap ((IntKind.i64.wrap (n.tmod 256 + 256)).tmod 256))] 5)) wx.heap.size (kb n) (cell_new1 wx _ (kb n) (score_byte n))
    have HU := Lib.hid (fun w' (h : Below w.heap.size w w') => (sum_T (kb n :: s) w' (by simp; omega) (HK.out.below h)).mono fun e w'' (h' : e = _ ∧ _) => (⟨h'.1, h.trans (h'.2.mono h.size)⟩ : e = _ ∧ Below w.heap.size w w''))
    have HA := Lib.hid (fun w' (h : Below w.heap.size w w') => (awake_any w' (HK.out.below h)).mono fun e w'' (h' : e = _ ∧ _) => (⟨h'.1, h.trans (h'.2.mono h.size)⟩ : e = _ ∧ Below w.heap.size w w''))
    have hcv2 := run_conv_one (w.alloc (.cells #[.int .u8 (IntKind.u8.wrap ((IntKind.i64.wrap (n.tmod 256 + 256)).tmod 256))] 5)).drew w.heap.size (kb n) (cell_new1 w _ (kb n) (score_byte n))
    have hb0 := Below.refl w.heap.size w
    generalize Sha.sum (kb n :: s) = M at *
    clear hbig
    go_enter Tryd.func5, Tryd.ntmps5
    go_upto_region 3 with fail
    go_region_held_law (fun w' => Below w.heap.size w w')
      (first | assumption | exact Below.drew (by assumption) | exact Below.drew (Below.alloc hb0 (Nat.le_refl _) _) | exact Below.alloc (by assumption) (Below.size (by assumption)) _)
      (first | (go_at_call 14; refine (HS2.out ?_).mono ?_; assumption; rintro e w' ⟨rfl, hkeep, hconv⟩) | (go_at_call 14; refine (HS.out _ ?_).mono ?_; assumption; rintro e w' ⟨rfl, hkeep⟩) | (go_at_call 10; refine (HU.out _ ?_).mono ?_; assumption; rintro e w' ⟨rfl, hkeep⟩) | (go_at_call 9; refine (HA.out _ ?_).mono ?_; assumption; rintro e w' ⟨rfl, hkeep⟩))
    all_goals
      go_wp2_with fail
      go_ret
      exact ⟨rfl, by assumption⟩
end Go.Proofs.YtmcafgimagpaaaaDoor
