/- What index, Has, made, the reference's Has and Score return. Conditions: the slice holds the given blocks; at most 10^6 of them; texts of at most 10^6 bytes; the 64 constants in the variable. -/
import Derived.Test.YtpcieookddpkhaaDoorBlks
import Derived.Test.YtpcieookddpkhaaDoorRefSum
set_option linter.unusedVariables false
set_option linter.unusedSimpArgs false
namespace Go.Proofs.YtpcieookddpkhaaDoor
open Go.RowKit
namespace Blok
theorem run_conv_one (w : World) (g : Nat) (c : UInt8) (hc : w.cell? ⟨g, 0, none⟩ = some (.int .u8 (c.toNat : Int))) :
    (convert 58 9 (.slice (some ⟨g, 0, none⟩) 1 1)).run Tryd.prog w = .ok (.string (T [c])) w :=
  run_convert_bytes_back w 58 9 5 ⟨g, 0, none⟩ 1 [c] Tryd.underlying58 Tryd.underlying5 Tryd.underlying9 fun j hj => by
    have hj0 : j = 0 := by simpa using hj
    subst hj0
    exact hc
theorem score_byte (n : Int) : IntKind.u8.wrap ((IntKind.i64.wrap (n.tmod 256 + 256)).tmod 256) = ((kb n).toNat : Int) := by
  have h1 : n.tmod 256 % 256 = n % 256 ∧ -256 < n.tmod 256 ∧ n.tmod 256 < 256 := by
    rw [Int.tmod_eq_emod]; split <;> simp <;> omega
  obtain ⟨h1, h2, h3⟩ := h1
  generalize n.tmod 256 = r at *
  rw [IntWalk.i64_in _ (by omega), IntKind.wrap_u8, Int.tmod_eq_emod_of_nonneg (by omega)]
  unfold kb; rw [UInt8.toNat_ofNat']
  omega
theorem score_byte2 (n : Int) : (wrap64 (n.tmod 256 + 256)).tmod 256 % 256 = ((kb n).toNat : Int) := by
  have h1 : n.tmod 256 % 256 = n % 256 ∧ -256 < n.tmod 256 ∧ n.tmod 256 < 256 := by
    rw [Int.tmod_eq_emod]; split <;> simp <;> omega
  obtain ⟨h1, h2, h3⟩ := h1
  generalize n.tmod 256 = r at *
  rw [IntWalk.wrap64_in _ (by omega), Int.tmod_eq_emod_of_nonneg (by omega)]
  unfold kb; rw [UInt8.toNat_ofNat']
  omega
end Blok
theorem Blks.form {w : World} {v : Value} {bs : List Blk} (h : Blks w v bs) : ∃ ao n c, v = .slice ao n c := by
  obtain ⟨ao, cap, hv, _⟩ := h; exact ⟨_, _, _, hv⟩
set_option maxHeartbeats 1000000 in
theorem index_any (c : Int) (v : Value) (bs : List Blk) (x : List UInt8) (w : World) (hv : Blks w v bs) (hl : bs.length ≤ 1000000) :
    Calls Tryd.prog 30 #[.agg #[.int .i64 c, v], .string (T x)] w fun e w' => e = .returned (.int .i64 (Blok.idx x bs)) ∧ Below w.heap.size w w' := by
  obtain ⟨ao, n, cp, rfl⟩ := hv.form
  have HV := Lib.hid hv
  clear hv
  go_enter Tryd.func30, Tryd.ntmps30
  go_wp2_with fail
  refine (ifn_any _ bs x _ _ (by simp) (HV.out.below (((Below.refl _ _).alloc (Nat.le_refl _) _).alloc (by simp) _)) hl).mono ?_; rintro e w1 ⟨rfl, h1⟩
  have h2 := after_alloc2 h1
  clear h1
  go_wp2_with fail
  go_ret
  exact ⟨rfl, h2⟩
theorem has_any (c : Int) (v : Value) (bs : List Blk) (x : List UInt8) (w : World) (hv : Blks w v bs) (hl : bs.length ≤ 1000000) :
    Calls Tryd.prog 17 #[.agg #[.int .i64 c, v], .string (T x)] w fun e w' => e = .returned (.bool (decide (0 ≤ Blok.idx x bs))) ∧ Below w.heap.size w w' := by
  obtain ⟨ao, n, cp, rfl⟩ := hv.form
  have HV := Lib.hid hv
  clear hv
  go_enter Tryd.func17, Tryd.ntmps17
  go_wp2_with fail
  refine (index_any c _ bs x _ (HV.out.below ((Below.refl _ _).alloc (Nat.le_refl _) _)) hl).mono ?_; rintro e w1 ⟨rfl, h1⟩
  have h2 := after_alloc1 h1
  clear h1
  go_wp2_with fail
  go_ret
  exact ⟨rfl, h2⟩
theorem rhas_any (c : Int) (v : Value) (bs : List Blk) (x : List UInt8) (w : World) (hv : Blks w v bs) (hl : bs.length ≤ 1000000) :
    Calls Tryd.prog 18 #[.agg #[.int .i64 c, v], .string (T x)] w fun e w' => e = .returned (.bool (decide (0 ≤ Blok.idx x bs))) ∧ Below w.heap.size w w' := by
  obtain ⟨ao, n, cp, rfl⟩ := hv.form
  have HV := Lib.hid hv
  have HB := Lib.hid (Below.refl w.heap.size w)
  clear hv
  go_enter Tryd.func18, Tryd.ntmps18
  go_wp2_with fail
  refine (rat_any _ bs x _ (HV.out.below ((Below.refl _ _).alloc (Nat.le_refl _) _)) hl).mono ?_; rintro e w1 ⟨rfl, rfl⟩
  go_wp2_with fail
  go_ret
  exact ⟨rfl, HB.out.alloc (Nat.le_refl _) _⟩
set_option maxHeartbeats 1000000 in
theorem made_any (k : Int) (d : List UInt8) (w : World) (hd : d.length ≤ 1000000) (hK : KIn w) :
    Calls Tryd.prog 31 #[.int .i64 k, .string (T d)] w fun e w' => e = .returned (.agg #[.string (T (Blok.scr k d)), .int .i64 k, .string (T d)]) ∧ Below w.heap.size w w' := by
  have HS := Lib.hid (fun w h => score_T k d w hd h)
  have HK := Lib.hid hK
  have HF := Lib.hid (show Blok.scr k d = Sha.sum (kb k :: d) from rfl)
  generalize Sha.sum (kb k :: d) = M at *
  clear hK
  go_enter Tryd.func31, Tryd.ntmps31
  go_wp2_with fail
  refine (HS.out _ (HK.out.below ((Below.refl _ _).alloc (Nat.le_refl _) _))).mono ?_; rintro e w1 ⟨rfl, h1⟩
  have hr := after_alloc1_new h1
  have h2 := Lib.hid (after_alloc1 h1)
  have d0 : w1.cell? ⟨w.heap.size, 0, none⟩ = some (.string ⟨#[]⟩) := by rw [cell_of_row _ _ _ _ _ _ hr]; rfl
  have f0 := frozen_of_row w1 w.heap.size 0 _ _ hr
  have d1 : w1.cell? ⟨w.heap.size, 1, none⟩ = some (.int .i64 0) := by rw [cell_of_row _ _ _ _ _ _ hr]; rfl
  have f1 := frozen_of_row w1 w.heap.size 1 _ _ hr
  have d2 : w1.cell? ⟨w.heap.size, 2, none⟩ = some (.string ⟨#[]⟩) := by rw [cell_of_row _ _ _ _ _ _ hr]; rfl
  have f2 := frozen_of_row w1 w.heap.size 2 _ _ hr
  clear h1 hr
  go_wp2_with fail
  have hbl := ((h2.out.setCell (p := ⟨w.heap.size, 0, none⟩) (Nat.le_refl _) (.string (T M))).setCell (p := ⟨w.heap.size, 1, none⟩) (Nat.le_refl _) (.int .i64 k)).setCell (p := ⟨w.heap.size, 2, none⟩) (Nat.le_refl _) (.string (T d))
  exact bodyPost_ret (v := .agg #[.string (T M), .int .i64 k, .string (T d)]) (by simp [results, Tryd.results31, go_sem, d0, d1, d2]) rfl ⟨by rw [HF.out], hbl⟩
set_option maxRecDepth 20000 in
set_option maxHeartbeats 1000000 in
theorem rscore_T (n : Int) (s : List UInt8) (w : World) (hs : s.length ≤ 1000000) :
    Calls Tryd.prog 32 #[.int .i64 n, .string (T s)] w fun e w' => e = .returned (.string (T (Blok.scr n s))) ∧ Below w.heap.size w w' := by
  have HN := Lib.hid (show (wrap64 (n.tmod 256 + 256)).tmod 256 % 256 = ((kb n).toNat : Int) from Blok.score_byte2 n)
  have HF := Lib.hid (show Blok.scr n s = Sha.sum (kb n :: s) from rfl)
  have hcv := Blok.run_conv_one (w.alloc (.cells #[.int .u8 ((wrap64 (n.tmod 256 + 256)).tmod 256 % 256)] 5)) w.heap.size (kb n) (by rw [HN.out]; exact (cell_of_row _ _ _ _ _ _ (heap_alloc_new w _)).trans rfl)
  have HU := Lib.hid (fun w => rsum_T (kb n :: s) w (by simp; omega))
  generalize Sha.sum (kb n :: s) = M at *
  have b1 : 1 + s.length ≤ 9223372036854775807 := by omega
  have b2 : s.length + 1 ≤ 9223372036854775807 := by omega
  go_enter Tryd.func32, Tryd.ntmps32
  go_wp2_with fail
  refine (HU.out _).mono ?_; rintro e w1 ⟨rfl, h1⟩
  have hb := after_alloc1 h1
  clear h1
  go_wp2_with fail
  go_ret
  exact ⟨by rw [HF.out]; rfl, hb⟩
end Go.Proofs.YtpcieookddpkhaaDoor
