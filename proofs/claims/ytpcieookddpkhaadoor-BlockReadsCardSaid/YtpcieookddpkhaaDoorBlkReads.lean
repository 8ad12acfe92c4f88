/- The law BlockReads: it returns true. Conditions: the slice holds the given blocks; the 64 constants in the variable. -/
import Derived.Test.YtpcieookddpkhaaDoorBlkPuts
set_option linter.unusedVariables false
set_option linter.unusedSimpArgs false
namespace Go.Proofs.YtpcieookddpkhaaDoor
open Go.RowKit
open Classical in
theorem Blok.right_true {c : Int} {bs : List Blk} (h : Blok.right c bs = true) : Blok.Right c bs := by unfold Blok.right at h; exact of_decide_eq_true h
theorem Blok.right_fair {c : Int} {bs : List Blk} (h : Blok.right c bs = true) : ∀ b ∈ bs, Blok.fair b := fun b hb => by
  obtain ⟨i, hi, rfl⟩ := List.getElem_of_mem hb
  exact Blok.fair_of ((Blok.right_true h).2.2.2 i hi)
/-- The boxes of the store and of the pair that came in. -/
def RdSt (w W : World) (c : Int) (v : Value) (x y : Int) : Prop := W.heap[w.heap.size]? = some (.cells #[.int .i64 c, v] 24 (0, 0)) ∧ W.heap[w.heap.size + 1]? = some (.cells #[.int .i64 x, .int .i64 y] 25 (0, 0)) ∧ Below w.heap.size w W
theorem RdSt.next {w W W' : World} {c : Int} {v : Value} {x y : Int} (h : RdSt w W c v x y) (hb : Below W.heap.size W W') : RdSt w W' c v x y := ⟨(hb.block _ (row_lt h.1)).trans h.1, (hb.block _ (row_lt h.2.1)).trans h.2.1, bnext h.2.2 hb⟩
theorem RdSt.reads {w W : World} {c : Int} {v : Value} {x y : Int} (h : RdSt w W c v x y) : W.cell? ⟨w.heap.size, 0, none⟩ = some (.int .i64 c) ∧ W.cell? ⟨w.heap.size, 1, none⟩ = some v ∧ W.cell? ⟨w.heap.size + 1, 0, none⟩ = some (.int .i64 x) ∧ W.cell? ⟨w.heap.size + 1, 1, none⟩ = some (.int .i64 y) := by
  refine ⟨?_, ?_, ?_, ?_⟩
  · rw [cell_of_row _ _ _ _ _ _ h.1]; rfl
  · rw [cell_of_row _ _ _ _ _ _ h.1]; rfl
  · rw [cell_of_row _ _ _ _ _ _ h.2.1]; rfl
  · rw [cell_of_row _ _ _ _ _ _ h.2.1]; rfl
set_option maxRecDepth 20000 in
set_option maxHeartbeats 4000000 in
theorem reads_T (c : Int) (v : Value) (bs : List Blk) (s : List UInt8) (x y : Int) (w : World) (hv : Blks w v bs) (hl : bs.length ≤ 9223372036854775807) (hK : KIn w) :
    Calls Tryd.prog 3 #[.agg #[.int .i64 c, v], .string (T s), .agg #[.int .i64 x, .int .i64 y]] w fun e w' => e = .returned (.bool true) ∧ Below w.heap.size w w' := by
  obtain ⟨ao, n, cp, rfl⟩ := hv.form
  have HS0 : Hid (RdSt w ((w.alloc (.cells #[.int .i64 c, .slice ao n cp] 24)).alloc (.cells #[.int .i64 x, .int .i64 y] 25)) c (.slice ao n cp) x y) := by
    have e : (w.alloc (.cells #[.int .i64 c, .slice ao n cp] 24)).heap.size = w.heap.size + 1 := by simp
    refine ⟨(Lib.alloc_old _ _ _ (by simp)).trans (heap_alloc_new _ _), ?_, ((Below.refl _ _).alloc (Nat.le_refl _) _).alloc (by simp) _⟩
    rw [← e]; exact heap_alloc_new _ _
  have HAL := Lib.hid (fun (W : World) (h : RdSt w W c (.slice ao n cp) x y) => (alive_any W (hK.below h.2.2)).mono fun e w' (h' : e = _ ∧ Below W.heap.size W w') => (⟨h'.1, h.next h'.2⟩ : e = .returned (.bool true) ∧ RdSt w w' c (.slice ao n cp) x y))
  have HSM := Lib.hid (fun (W : World) (h : RdSt w W c (.slice ao n cp) x y) => small_any c (.slice ao n cp) bs W (hv.below h.2.2) hl)
  have HRR := Lib.hid (fun (hl : bs.length ≤ 1000000) (W : World) (h : RdSt w W c (.slice ao n cp) x y) => (rright_any c (.slice ao n cp) bs W (hv.below h.2.2) hl).mono fun e w' (h' : e = _ ∧ Below W.heap.size W w') => (⟨h'.1, h.next h'.2⟩ : e = .returned (.bool (Blok.right c bs)) ∧ RdSt w w' c (.slice ao n cp) x y))
  have HPR := Lib.hid (fun (hl : bs.length ≤ 1000000) (W : World) (h : RdSt w W c (.slice ao n cp) x y) => (bright_any c (.slice ao n cp) bs W (hv.below h.2.2) hl).mono fun e w' (h' : e = _ ∧ Below W.heap.size W w') => (⟨h'.1, h.next h'.2⟩ : e = .returned (.bool (Blok.right c bs)) ∧ RdSt w w' c (.slice ao n cp) x y))
  unfold SmallSays at HSM
  have HN := Lib.hid (fun (W : World) (h : RdSt w W c (.slice ao n cp) x y) => (new_any x W).mono fun e w' (h' : e = _ ∧ Below W.heap.size W w') => (⟨h'.1, (h.next h'.2).reads.2.2.1, h.next h'.2⟩ : e = .returned (.agg #[.int .i64 (Blok.capOf x), .slice none 0 0]) ∧ w'.cell? ⟨w.heap.size + 1, 0, none⟩ = some (.int .i64 x) ∧ RdSt w w' c (.slice ao n cp) x y))
  have HRN := Lib.hid (fun (W : World) (h : RdSt w W c (.slice ao n cp) x y) => (rnew_any x W).mono fun e w' (h' : e = _ ∧ Below W.heap.size W w') => (⟨h'.1, (h.next h'.2).reads.2.2.1, h.next h'.2⟩ : e = .returned (.agg #[.int .i64 (Blok.capOf x), .slice none 0 0]) ∧ w'.cell? ⟨w.heap.size + 1, 0, none⟩ = some (.int .i64 x) ∧ RdSt w w' c (.slice ao n cp) x y))
  have HSA := Lib.hid (fun (W : World) (h : RdSt w W c (.slice ao n cp) x y) => (same_any (Blok.capOf x) (.slice none 0 0) [] (Blok.capOf x) (.slice none 0 0) [] W (blks_nil W) (blks_nil W) (by simp) (by simp)).mono fun e w' (h' : e = _ ∧ Below W.heap.size W w') => (⟨h'.1, (h.next h'.2).reads.2.2.1, h.next h'.2⟩ : e = .returned (.bool (Blok.same (Blok.capOf x) [] (Blok.capOf x) [])) ∧ w'.cell? ⟨w.heap.size + 1, 0, none⟩ = some (.int .i64 x) ∧ RdSt w w' c (.slice ao n cp) x y))
  rw [Blok.same_yes] at HSA
  have HV := Lib.hid hv
  have HKK := Lib.hid hK
  clear hv hK hl
  generalize Blok.capOf x = X at *
  go_enter Tryd.func3, Tryd.ntmps3
  go_wp2_with fail
  refine (HSM.out _ HS0.out).mono ?_; rintro e w1 ⟨B, rfl, hB, b1⟩
  have HS1 := Lib.hid (HS0.out.next b1)
  clear b1
  cases B
  · go_wp2_with fail
    refine (HAL.out _ HS1.out).mono ?_; rintro e w2 ⟨rfl, hs2⟩
    have HB2 := Lib.hid hs2.2.2
    clear hs2
    go_wp2_with fail
    go_ret
    exact ⟨rfl, HB2.out⟩
  obtain ⟨h200, hbb⟩ := hB rfl
  have hl6 : bs.length ≤ 1000000 := by omega
  have HD6 := Lib.hid (show ∀ j (h : j < bs.length), bs[j].dt.length ≤ 1000000 from fun j h => by have := (hbb j h).1; omega)
  clear hbb hB
  rcases Nat.lt_or_ge 100 s.length with hd2 | hd2
  · have hdi : (100 : Int) < s.length := by omega
    go_wp2_with fail
    refine (HAL.out _ HS1.out).mono ?_; rintro e w2 ⟨rfl, hs2⟩
    have HB2 := Lib.hid hs2.2.2
    clear hs2
    go_wp2_with fail
    go_ret
    exact ⟨rfl, HB2.out⟩
  have hdi : (s.length : Int) ≤ 100 := by omega
  go_upto_region 3 with fail
  obtain ⟨r1, r2, r3, r4⟩ := HS1.out.reads
  have HS1' := Lib.hid (HS1.out.next (below_drewN (Below.refl _ _) 1))
  go_region_held_law (fun w' => w'.cell? ⟨w.heap.size + 1, 0, none⟩ = some (.int .i64 x) ∧ RdSt w w' c (.slice ao n cp) x y) (first | assumption | exact ⟨r3, HS1'.out⟩) (first | (go_at_call 11; refine (HN.out _ (‹_ ∧ RdSt w _ c _ x y›).2).mono ?_; rintro e w' ⟨rfl, hkeep⟩) | (go_at_call 12; refine (HRN.out _ (‹_ ∧ RdSt w _ c _ x y›).2).mono ?_; rintro e w' ⟨rfl, hkeep⟩) | (go_at_call 10; refine (HSA.out _ (‹_ ∧ RdSt w _ c _ x y›).2).mono ?_; rintro e w' ⟨rfl, hkeep⟩))
  have HS3 := Lib.hid hkeep.2
  clear r1 r2 r3 r4
  clear hkeep HS1'
  generalize w' = W3 at *
  obtain ⟨r1, r2, r3, r4⟩ := HS3.out.reads
  cases hr : Blok.right c bs
  · rw [hr] at HRR HPR
    go_wp2_with fail
    refine (HRR.out hl6 _ HS3.out).mono ?_; rintro e w4 ⟨rfl, hs4⟩
    have HS4 := Lib.hid hs4
    clear hs4 r1 r2 r3 r4
    obtain ⟨r1, r2, r3, r4⟩ := HS4.out.reads
    go_wp2_with fail
    refine (HPR.out hl6 _ HS4.out).mono ?_; rintro e w5 ⟨rfl, hs5⟩
    have HS5 := Lib.hid hs5
    clear hs5 r1 r2 r3 r4
    go_wp2_with fail
    refine (HAL.out _ HS5.out).mono ?_; rintro e w6 ⟨rfl, hs6⟩
    have HB6 := Lib.hid hs6.2.2
    clear hs6
    go_wp2_with fail
    go_ret
    exact ⟨rfl, HB6.out⟩
  have hfair := Blok.right_fair hr
  rw [hr] at HRR HPR
  have HGT := Lib.hid (fun (W : World) (h : RdSt w W c (.slice ao n cp) x y) => (bkget_any c (.slice ao n cp) bs s y W (HKK.out.below h.2.2) (HV.out.below h.2.2) hl6 HD6.out).mono fun e w' (h' : BkGetSays bs s y W e w') => (⟨h'.1, h.next h'.2⟩ : e = .returned (.tuple #[.string (T (Blok.get bs s y).1), .int .i64 (Blok.get bs s y).2]) ∧ RdSt w w' c (.slice ao n cp) x y))
  have HRG := Lib.hid (fun (W : World) (h : RdSt w W c (.slice ao n cp) x y) => (rbkget_any c (.slice ao n cp) bs s y W (HV.out.below h.2.2) hl6 HD6.out).mono fun e w' (h' : BkGetSays bs s y W e w') => (⟨h'.1, h.next h'.2⟩ : e = .returned (.tuple #[.string (T (Blok.get bs s y).1), .int .i64 (Blok.get bs s y).2]) ∧ RdSt w w' c (.slice ao n cp) x y))
  have HHA := Lib.hid (fun (W : World) (h : RdSt w W c (.slice ao n cp) x y) => (has_any c (.slice ao n cp) bs s W (HV.out.below h.2.2) hl6).mono fun e w' (h' : e = _ ∧ Below W.heap.size W w') => (⟨h'.1, (h.next h'.2).reads.1, (h.next h'.2).reads.2.1, h.next h'.2⟩ : e = .returned (.bool (decide (0 ≤ Blok.idx s bs))) ∧ w'.cell? ⟨w.heap.size, 0, none⟩ = some (.int .i64 c) ∧ w'.cell? ⟨w.heap.size, 1, none⟩ = some (.slice ao n cp) ∧ RdSt w w' c (.slice ao n cp) x y))
  have HRH := Lib.hid (fun (W : World) (h : RdSt w W c (.slice ao n cp) x y) => (rhas_any c (.slice ao n cp) bs s W (HV.out.below h.2.2) hl6).mono fun e w' (h' : e = _ ∧ Below W.heap.size W w') => (⟨h'.1, (h.next h'.2).reads.1, (h.next h'.2).reads.2.1, h.next h'.2⟩ : e = .returned (.bool (decide (0 ≤ Blok.idx s bs))) ∧ w'.cell? ⟨w.heap.size, 0, none⟩ = some (.int .i64 c) ∧ w'.cell? ⟨w.heap.size, 1, none⟩ = some (.slice ao n cp) ∧ RdSt w w' c (.slice ao n cp) x y))
  have HLG := Lib.hid (fun (W : World) (h : RdSt w W c (.slice ao n cp) x y) => (log_any c (.slice ao n cp) bs W (HV.out.below h.2.2) hl6 hfair).mono fun e w' (h' : e = _ ∧ Below W.heap.size W w') => (⟨h'.1, (h.next h'.2).reads.1, (h.next h'.2).reads.2.1, h.next h'.2⟩ : e = .returned (.string (T (Blok.log bs))) ∧ w'.cell? ⟨w.heap.size, 0, none⟩ = some (.int .i64 c) ∧ w'.cell? ⟨w.heap.size, 1, none⟩ = some (.slice ao n cp) ∧ RdSt w w' c (.slice ao n cp) x y))
  have HRL := Lib.hid (fun (W : World) (h : RdSt w W c (.slice ao n cp) x y) => (rlog_any c (.slice ao n cp) bs W (HV.out.below h.2.2) hl6 hfair).mono fun e w' (h' : e = _ ∧ Below W.heap.size W w') => (⟨h'.1, (h.next h'.2).reads.1, (h.next h'.2).reads.2.1, h.next h'.2⟩ : e = .returned (.string (T (Blok.log bs))) ∧ w'.cell? ⟨w.heap.size, 0, none⟩ = some (.int .i64 c) ∧ w'.cell? ⟨w.heap.size, 1, none⟩ = some (.slice ao n cp) ∧ RdSt w w' c (.slice ao n cp) x y))
  have HUS := Lib.hid (fun (W : World) (h : RdSt w W c (.slice ao n cp) x y) => (used_any c (.slice ao n cp) bs W (HV.out.below h.2.2) hl6 HD6.out).mono fun e w' (h' : e = _ ∧ Below W.heap.size W w') => (⟨h'.1, (h.next h'.2).reads.1, (h.next h'.2).reads.2.1, h.next h'.2⟩ : e = .returned (.int .i64 (Blok.used bs : Nat)) ∧ w'.cell? ⟨w.heap.size, 0, none⟩ = some (.int .i64 c) ∧ w'.cell? ⟨w.heap.size, 1, none⟩ = some (.slice ao n cp) ∧ RdSt w w' c (.slice ao n cp) x y))
  have HRU := Lib.hid (fun (W : World) (h : RdSt w W c (.slice ao n cp) x y) => (rused_any c (.slice ao n cp) bs W (HV.out.below h.2.2) hl6 hfair).mono fun e w' (h' : e = _ ∧ Below W.heap.size W w') => (⟨h'.1, (h.next h'.2).reads.1, (h.next h'.2).reads.2.1, h.next h'.2⟩ : e = .returned (.int .i64 (Blok.used bs : Nat)) ∧ w'.cell? ⟨w.heap.size, 0, none⟩ = some (.int .i64 c) ∧ w'.cell? ⟨w.heap.size, 1, none⟩ = some (.slice ao n cp) ∧ RdSt w w' c (.slice ao n cp) x y))
  have HPR2 := Lib.hid (fun (W : World) (h : RdSt w W c (.slice ao n cp) x y) => (HPR.out hl6 W h).mono fun e w' (h' : e = _ ∧ RdSt w w' c (.slice ao n cp) x y) => (⟨h'.1, h'.2.reads.1, h'.2.reads.2.1, h'.2⟩ : e = .returned (.bool true) ∧ w'.cell? ⟨w.heap.size, 0, none⟩ = some (.int .i64 c) ∧ w'.cell? ⟨w.heap.size, 1, none⟩ = some (.slice ao n cp) ∧ RdSt w w' c (.slice ao n cp) x y))
  have HAL2 := Lib.hid (fun (W : World) (h : RdSt w W c (.slice ao n cp) x y) => (HAL.out W h).mono fun e w' (h' : e = _ ∧ RdSt w w' c (.slice ao n cp) x y) => (⟨h'.1, h'.2.reads.1, h'.2.reads.2.1, h'.2⟩ : e = .returned (.bool true) ∧ w'.cell? ⟨w.heap.size, 0, none⟩ = some (.int .i64 c) ∧ w'.cell? ⟨w.heap.size, 1, none⟩ = some (.slice ao n cp) ∧ RdSt w w' c (.slice ao n cp) x y))
  generalize Blok.get bs s y = G at *
  obtain ⟨G1, G2⟩ := G
  simp only [] at HGT HRG
  generalize decide (0 ≤ Blok.idx s bs) = HI at *
  generalize Blok.log bs = L at *
  generalize Blok.used bs = U at *
  clear hfair HD6
  go_wp2_with fail
  refine (HRR.out hl6 _ HS3.out).mono ?_; rintro e w4 ⟨rfl, hs4⟩
  have HS4 := Lib.hid hs4
  clear hs4 r1 r2 r3 r4
  obtain ⟨r1, r2, r3, r4⟩ := HS4.out.reads
  go_wp2_with fail
  refine (HGT.out _ HS4.out).mono ?_; rintro e w5 ⟨rfl, hs5⟩
  have HS5 := Lib.hid hs5
  clear hs5 r1 r2 r3 r4
  obtain ⟨r1, r2, r3, r4⟩ := HS5.out.reads
  go_wp2_with fail
  refine (HRG.out _ HS5.out).mono ?_; rintro e w6 ⟨rfl, hs6⟩
  have HS6 := Lib.hid hs6
  clear hs6 r1 r2 r3 r4
  obtain ⟨r1, r2, r3, r4⟩ := HS6.out.reads
  go_upto_region 9 with fail
  have HS6' := Lib.hid (HS6.out.next (below_drewN (Below.refl _ _) 1))
  go_region_held_law (fun w' => w'.cell? ⟨w.heap.size, 0, none⟩ = some (.int .i64 c) ∧ w'.cell? ⟨w.heap.size, 1, none⟩ = some (.slice ao n cp) ∧ RdSt w w' c (.slice ao n cp) x y) (first | assumption | exact ⟨r1, r2, HS6'.out⟩) (first | (go_at_call 14; refine (HPR2.out _ (‹_ ∧ _ ∧ RdSt w _ c _ x y›).2.2).mono ?_; rintro e w' ⟨rfl, hkeep⟩) | (go_at_call 17; refine (HHA.out _ (‹_ ∧ _ ∧ RdSt w _ c _ x y›).2.2).mono ?_; rintro e w' ⟨rfl, hkeep⟩) | (go_at_call 18; refine (HRH.out _ (‹_ ∧ _ ∧ RdSt w _ c _ x y›).2.2).mono ?_; rintro e w' ⟨rfl, hkeep⟩) | (go_at_call 19; refine (HLG.out _ (‹_ ∧ _ ∧ RdSt w _ c _ x y›).2.2).mono ?_; rintro e w' ⟨rfl, hkeep⟩) | (go_at_call 20; refine (HRL.out _ (‹_ ∧ _ ∧ RdSt w _ c _ x y›).2.2).mono ?_; rintro e w' ⟨rfl, hkeep⟩) | (go_at_call 21; refine (HUS.out _ (‹_ ∧ _ ∧ RdSt w _ c _ x y›).2.2).mono ?_; rintro e w' ⟨rfl, hkeep⟩) | (go_at_call 22; refine (HRU.out _ (‹_ ∧ _ ∧ RdSt w _ c _ x y›).2.2).mono ?_; rintro e w' ⟨rfl, hkeep⟩) | (go_at_call 9; refine (HAL2.out _ (‹_ ∧ _ ∧ RdSt w _ c _ x y›).2.2).mono ?_; rintro e w' ⟨rfl, hkeep⟩))
  all_goals
    have HBZ := Lib.hid hkeep.2.2.2.2
    clear hkeep r1 r2 r3 r4
    go_wp2_with fail
    go_ret
    exact ⟨rfl, HBZ.out⟩
end Go.Proofs.YtpcieookddpkhaaDoor
