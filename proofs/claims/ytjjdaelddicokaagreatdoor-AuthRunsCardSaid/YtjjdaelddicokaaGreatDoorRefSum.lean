/- What the reference's Sum returns: Sha.sum. Conditions: a text of at most 10^9 bytes. -/
import Derived.Test.YtjjdaelddicokaaGreatDoorRefBlock
set_option linter.unusedVariables false
set_option linter.unusedSimpArgs false
namespace Go.Proofs.YtjjdaelddicokaaGreatDoor
open Go.RowKit
theorem st_cell {w : World} {g k : Nat} {v : Sha.S8} {t : TypeId} (h : w.heap[g]? = some (.cells (st v) t (0, 0))) (hk : k < 8) : w.cell? ⟨g, k, none⟩ = some (.int .u32 (((sl v).getD k 0 : Nat) : Int)) := by
  rw [cell_of_row _ _ _ _ _ _ h, ← pr_zero v v]; exact pr_get0 v v k hk
def blk (p : List UInt8) (k : Nat) : List UInt8 := (p.drop (64 * k)).take 64
theorem blk_ext (p : List UInt8) (k : Nat) : (T p).extract (64 * k) (64 * k + 64) = T (blk p k) := by
  rw [extract_T']
  congr 1
  unfold blk
  rw [List.drop_take, Nat.add_sub_cancel_left]
theorem blk_len (p : List UInt8) (k : Nat) (h : 64 * k + 64 ≤ p.length) : (blk p k).length = 64 := by unfold blk; rw [List.length_take, List.length_drop]; omega
theorem run_blk (p : List UInt8) (k n : Nat) (v : Sha.S8) : Sha.run (n + 1) v (p.drop (64 * k)) = Sha.run n (Sha.mix v (blk p k)) (p.drop (64 * (k + 1))) := by
  rw [Sha.run, List.drop_drop]; rfl
set_option maxRecDepth 100000 in
set_option maxHeartbeats 4000000 in
theorem rsum_T (l : List UInt8) (w : World) (hs : l.length ≤ 1000000000) :
    Calls Tryz.prog 71 #[.string (T l)] w fun e w' => e = .returned (.string (T (Sha.sum l))) ∧ Below w.heap.size w w' := by
  have HP := Lib.hid (fun w => rpad_T l w hs)
  have HF := Lib.hid (show Sha.sum l = Sha.out (Sha.run ((Sha.pad l).length / 64) Sha.iv (Sha.pad l)) from rfl)
  have hmod := Sha.pad_mod l
  have hlen : (Sha.pad l).length ≤ 1000000200 := by
    have h64 := Sha.zer_le l.length
    rw [Sha.pad_length]; omega
  generalize Sha.pad l = pp at *
  obtain ⟨n, hn⟩ : ∃ n, pp.length = 64 * n := ⟨pp.length / 64, by omega⟩
  have hn1 : pp.length ≤ 64 * n := by omega
  have hn2 : 64 * n ≤ pp.length := by omega
  have hn3 : n ≤ 20000000 := by omega
  rw [show pp.length / 64 = n from by omega] at HF
  clear hmod hlen hn
  go_enter Tryz.func71, Tryz.ntmps71
  go_wp2_with fail
  refine (HP.out _).mono ?_; rintro e w1 ⟨rfl, hb⟩
  have h1 : w1.heap[w.heap.size]? = some (.cells (st Sha.iv) 80 (0, 0)) := after_alloc1_new hb
  have HB1 := Lib.hid (after_alloc1 hb)
  have H1 := Lib.hid h1
  clear hb h1
  go_wp2_with fail
  go_loopw [3, 5] (fun h i wr => ∃ (k g : Nat) (v : Sha.S8), k ≤ n ∧ i = .int .i64 (64 * (k : Int)) ∧ h = .slice (some ⟨g, 0, none⟩) 8 8 ∧ wr.heap[g]? = some (.cells (st v) 80 (0, 0)) ∧ v.ok ∧
    Hid (Sha.run (n - k) v (pp.drop (64 * k)) = Sha.run n Sha.iv pp) ∧ Below w.heap.size w wr) (fun _ i _ => 64 * n - (intOf i).toNat)
  case atStart => exact ⟨0, w.heap.size, Sha.iv, by omega, rfl, rfl, H1.out, Sha.iv_ok, rfl, HB1.out⟩
  case round =>
    clear H1 HB1
    obtain ⟨k, g, v, hk, rfl, rfl, hrow, hv, hrun, hb⟩ := hrel
    have HB := Lib.hid hb
    clear hb
    by_cases hlt : k < n
    · have hx := blk_ext pp k
      have HM := Lib.hid (rblock_any v g (T (blk pp k)) wr hv (by rw [T_size, blk_len pp k (by omega)]; omega) (by rw [T_size, blk_len pp k (by omega)]; omega) hrow)
      have HRUN := Lib.hid (show Sha.run (n - (k + 1)) (Sha.mix v (blk pp k)) (pp.drop (64 * (k + 1))) = Sha.run n Sha.iv pp from by
        rw [← hrun.out, show n - k = (n - (k + 1)) + 1 from by omega, run_blk])
      have HOK := Lib.hid (Sha.mix_ok v (blk pp k))
      have q0 : 64 * (k : Int) + 64 ≤ pp.length := by omega
      have q1 : 64 * (k : Int) < pp.length := by omega
      have q2 : (0 : Int) ≤ 64 * (k : Int) := by omega
      have t0 : (64 * (k : Int)).toNat = 64 * k := by omega
      have t1 : (64 * (k : Int) + 64).toNat = 64 * k + 64 := by omega
      have t2 : 64 * k + 64 ≤ pp.length := by omega
      clear hrow hv
      go_wp2_with fail
      refine HM.out.mono ?_
      rintro e w' ⟨g', rfl, hrow', hg', hb'⟩
      have HB' := Lib.hid (bnext HB.out hb')
      have HR' := Lib.hid hrow'
      clear hrow' hg' hb' t0 t1
      go_wp2_with fail
      go_roundw
      case rel => exact ⟨k + 1, g', _, by omega, by go_num, rfl, HR'.out, HOK.out, HRUN.out, HB'.out⟩
      case measure => simp [intOf]; omega
    · obtain rfl : k = n := by omega
      have HV : Hid (v = Sha.run k Sha.iv pp) := by
        have := hrun.out
        rw [Nat.sub_self] at this
        exact this
      have HF2 := Lib.hid (show Sha.sum l = Sha.out v from by rw [HF.out, HV.out])
      have HSL := Lib.hid (fun j => sl_lt hv j)
      have HR := Lib.hid hrow
      clear hrow hv
      go_wp2_with fail
      go_loopw [6, 7] (fun s i wr => ∃ j : Nat, j ≤ 8 ∧ i = .int .i64 (j : Int) ∧ s = .string (T (outk v j)) ∧ wr.heap[g]? = some (.cells (st v) 80 (0, 0)) ∧ Below w.heap.size w wr) (fun _ i _ => 8 - (intOf i).toNat)
      case atStart => exact ⟨0, by omega, rfl, rfl, HR.out, HB.out⟩
      case round =>
        clear HR HB
        obtain ⟨j, hj, rfl, rfl, hrow, hb⟩ := hrel
        by_cases hlt8 : j < 8
        · have cj := st_cell hrow hlt8
          have lj := HSL.out j
          have HO := Lib.hid (outk_succ v j hlt8)
          have hgl : g < wr.heap.size := block_lt_of_cell cj
          generalize (sl v).getD j 0 = x at *
          have hg4 : ∀ w, Calls Tryz.prog 84 #[.int .u64 (x : Int), .int .i64 4] w fun e w' => e = .returned (.string (T (Sha.be 4 x))) ∧ Below w.heap.size w w' := fun w => rbig_any x 4 (by omega) (by omega) w
          have HG4 := Lib.hid hg4
          have b2 : (outk v j).length + (Sha.be 4 x).length ≤ 9223372036854775807 := by rw [outk_length v j hj, Sha.be_length]; omega
          have HR := Lib.hid hrow
          have HB := Lib.hid hb
          clear hrow hb hg4
          go_wp2_with fail
          refine (HG4.out _).mono ?_; rintro e w' ⟨rfl, b4⟩
          have HR' := Lib.hid ((b4.block _ hgl).trans HR.out)
          have HB' := Lib.hid (bnext HB.out b4)
          clear b4
          go_wp2_with fail
          go_roundw
          case rel => exact ⟨j + 1, by omega, by go_num, by rw [HO.out, ← T_append], HR'.out, HB'.out⟩
          case measure => simp [intOf]; omega
        · obtain rfl : j = 8 := by omega
          have HO := Lib.hid (outk_end v)
          have HB := Lib.hid hb
          clear hrow hb
          go_wp2_with fail
          go_ret
          exact ⟨by rw [HF2.out, ← HO.out]; rfl, HB.out⟩
end Go.Proofs.YtjjdaelddicokaaGreatDoor
