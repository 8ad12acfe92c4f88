/- The law BlockPuts: it returns true. Conditions: the slice holds the given blocks; the 64 constants in the variable. -/
import Derived.Test.YtpcieookddpkhaaDoorBlkAlive
import Derived.Test.YtpcieookddpkhaaDoorBlkRPut
import Derived.Test.YtpcieookddpkhaaDoorBlkSmall
set_option linter.unusedVariables false
set_option linter.unusedSimpArgs false
namespace Go.Proofs.YtpcieookddpkhaaDoor
open Go.RowKit
theorem Blok.put_len (c : Int) (bs : List Blk) (k : Int) (d : List UInt8) : (Blok.put c bs k d).1.length ≤ bs.length + 1 := by
  unfold Blok.put
  repeat' split
  all_goals simp
/-- The box of the store that came in. -/
def LawSt (w W : World) (c : Int) (v : Value) : Prop := W.heap[w.heap.size]? = some (.cells #[.int .i64 c, v] 24 (0, 0)) ∧ Below w.heap.size w W
theorem LawSt.next {w W W' : World} {c : Int} {v : Value} (h : LawSt w W c v) (hb : Below W.heap.size W W') : LawSt w W' c v := ⟨(hb.block _ (row_lt h.1)).trans h.1, bnext h.2 hb⟩
theorem LawSt.start (w : World) (c : Int) (v : Value) : LawSt w (w.alloc (.cells #[.int .i64 c, v] 24)) c v := ⟨heap_alloc_new _ _, (Below.refl _ _).alloc (Nat.le_refl _) _⟩
theorem LawSt.reads {w W : World} {c : Int} {v : Value} (h : LawSt w W c v) : W.cell? ⟨w.heap.size, 0, none⟩ = some (.int .i64 c) ∧ W.cell? ⟨w.heap.size, 1, none⟩ = some v := by
  refine ⟨?_, ?_⟩
  · rw [cell_of_row _ _ _ _ _ _ h.1]; rfl
  · rw [cell_of_row _ _ _ _ _ _ h.1]; rfl
theorem store_reads {W : World} {g : Nat} {c : Int} {v : Value} (h : W.heap[g]? = some (.cells #[.int .i64 c, v] 24 (0, 0))) : W.cell? ⟨g, 0, none⟩ = some (.int .i64 c) ∧ W.cell? ⟨g, 1, none⟩ = some v := by
  refine ⟨?_, ?_⟩
  · rw [cell_of_row _ _ _ _ _ _ h]; rfl
  · rw [cell_of_row _ _ _ _ _ _ h]; rfl
set_option maxRecDepth 20000 in
set_option maxHeartbeats 4000000 in
theorem puts_T (c : Int) (v : Value) (bs : List Blk) (k : Int) (d : List UInt8) (w : World) (hv : Blks w v bs) (hl : bs.length ≤ 9223372036854775807) (hd : d.length ≤ 9223372036854775807) (hK : KIn w) :
    Calls Tryd.prog 4 #[.agg #[.int .i64 c, v], .int .i64 k, .string (T d)] w fun e w' => e = .returned (.bool true) ∧ Below w.heap.size w w' := by
  obtain ⟨ao, n, cp, rfl⟩ := hv.form
  have HAL := Lib.hid (fun (W : World) (h : LawSt w W c (.slice ao n cp)) => (alive_any W (hK.below h.2)).mono fun e w' (h' : e = _ ∧ Below W.heap.size W w') => (⟨h'.1, h.next h'.2⟩ : e = .returned (.bool true) ∧ LawSt w w' c (.slice ao n cp)))
  have HSM := Lib.hid (fun (W : World) (h : LawSt w W c (.slice ao n cp)) => small_any c (.slice ao n cp) bs W (hv.below h.2) hl)
  have HRR := Lib.hid (fun (hl : bs.length ≤ 1000000) (W : World) (h : LawSt w W c (.slice ao n cp)) => (rright_any c (.slice ao n cp) bs W (hv.below h.2) hl).mono fun e w' (h' : e = _ ∧ Below W.heap.size W w') => (⟨h'.1, h.next h'.2⟩ : e = .returned (.bool (Blok.right c bs)) ∧ LawSt w w' c (.slice ao n cp)))
  have HPU := Lib.hid (fun (hl : bs.length ≤ 1000000) (hd : d.length ≤ 1000000) (W : World) (h : LawSt w W c (.slice ao n cp)) => bput_own c (.slice ao n cp) bs k d W (hv.below h.2) hl hd (hK.below h.2))
  have HRP := Lib.hid (fun (hl : bs.length ≤ 1000000) (hd : d.length ≤ 1000000) (W : World) (h : LawSt w W c (.slice ao n cp)) => rbput_any c (.slice ao n cp) bs k d W (hv.below h.2) hl hd)
  have HPL := Lib.hid (Blok.put_len c bs k d)
  have HS0 := Lib.hid (LawSt.start w c (.slice ao n cp))
  have HHL := Lib.hid hl
  have HHD := Lib.hid hd
  unfold SmallSays at HSM
  unfold BkPutOwn at HPU
  unfold BkPutSays at HRP
  generalize Blok.put c bs k d = P at *
  obtain ⟨l, x, E⟩ := P
  simp only [] at *
  clear hv hK hl
  go_enter Tryd.func4, Tryd.ntmps4
  go_wp2_with fail
  refine (HSM.out _ HS0.out).mono ?_; rintro e w1 ⟨B, rfl, hB, b1⟩
  have HS1 := Lib.hid (HS0.out.next b1)
  clear b1
  cases B
  · go_wp2_with fail
    refine (HAL.out _ HS1.out).mono ?_; rintro e w2 ⟨rfl, hs2⟩
    have HB2 := Lib.hid hs2.2
    clear hs2
    go_wp2_with fail
    go_ret
    exact ⟨rfl, HB2.out⟩
  obtain ⟨h200, hbb⟩ := hB rfl
  have hl6 : bs.length ≤ 1000000 := by omega
  clear hbb hB
  rcases Nat.lt_or_ge 20000 d.length with hd2 | hd2
  · have hdi : (20000 : Int) < d.length := by omega
    go_wp2_with fail
    refine (HAL.out _ HS1.out).mono ?_; rintro e w2 ⟨rfl, hs2⟩
    have HB2 := Lib.hid hs2.2
    clear hs2
    go_wp2_with fail
    go_ret
    exact ⟨rfl, HB2.out⟩
  have hdi : (d.length : Int) ≤ 20000 := by omega
  have hd6 : d.length ≤ 1000000 := by omega
  obtain ⟨r1, r2⟩ := HS1.out.reads
  cases hr : Blok.right c bs
  · rw [hr] at HRR
    go_wp2_with fail
    refine (HRR.out hl6 _ HS1.out).mono ?_; rintro e w2 ⟨rfl, hs2⟩
    have HS2 := Lib.hid hs2
    clear hs2
    go_wp2_with fail
    refine (HAL.out _ HS2.out).mono ?_; rintro e w2 ⟨rfl, hs2⟩
    have HB2 := Lib.hid hs2.2
    clear hs2
    go_wp2_with fail
    go_ret
    exact ⟨rfl, HB2.out⟩
  rw [hr] at HRR
  go_wp2_with fail
  refine (HRR.out hl6 _ HS1.out).mono ?_; rintro e w2 ⟨rfl, hs2⟩
  have HS2 := Lib.hid hs2
  clear hs2 r1 r2
  obtain ⟨r1, r2⟩ := HS2.out.reads
  go_wp2_with fail
  refine (HPU.out hl6 hd6 _ HS2.out).mono ?_; rintro e w3 ⟨v3, rfl, own3, b3⟩
  obtain ⟨a3, c3, rfl⟩ := own_slice own3
  have b3' := b3.alloc b3.size (.cells #[.int .i64 c, .slice a3 l.length c3] 24)
  have HS3 := Lib.hid (HS2.out.next b3')
  have HR3 := Lib.hid (heap_alloc_new w3 (.cells #[.int .i64 c, .slice a3 l.length c3] 24))
  have HV3 := Lib.hid (blks_own (own3.alloc (.cells #[.int .i64 c, .slice a3 l.length c3] 24)))
  clear own3 b3 b3' r1 r2
  go_upto_region 4 with fail
  generalize w3.heap.size = g3 at *
  generalize w3.alloc (.cells #[.int .i64 c, .slice a3 l.length c3] 24) = W3 at *
  obtain ⟨r1, r2⟩ := HS3.out.reads
  go_wp2_with fail
  refine (HRP.out hl6 hd6 _ HS3.out).mono ?_; rintro e w4 ⟨v4, rfl, hv4, b4⟩
  obtain ⟨a4, n4, c4, rfl⟩ := hv4.form
  have b4' := b4.alloc b4.size (.cells #[.int .i64 c, .slice a4 n4 c4] 24)
  have HS4 := Lib.hid (HS3.out.next b4')
  have HR4 := Lib.hid (heap_alloc_new w4 (.cells #[.int .i64 c, .slice a4 n4 c4] 24))
  have HV4 := Lib.hid (hv4.below ((Below.refl w4.heap.size w4).alloc (Nat.le_refl _) (.cells #[.int .i64 c, .slice a4 n4 c4] 24)))
  have HR34 := Lib.hid ((b4'.block _ (row_lt HR3.out)).trans HR3.out)
  have HV34 := Lib.hid (HV3.out.below b4')
  clear hv4 b4 b4' r1 r2
  go_upto_region 5 with fail
  generalize w4.heap.size = g4 at *
  generalize w4.alloc (.cells #[.int .i64 c, .slice a4 n4 c4] 24) = W4 at *
  have hll : l.length ≤ 1000000 := by have := HPL.out; omega
  have HSA := Lib.hid (same_any c (.slice a3 l.length c3) l c (.slice a4 n4 c4) l W4 HV34.out HV4.out hll hll)
  rw [Blok.same_yes] at HSA
  obtain ⟨r1, r2⟩ := store_reads HR34.out
  obtain ⟨s1, s2⟩ := store_reads HR4.out
  go_wp2_with fail
  refine HSA.out.mono ?_; rintro e w5 ⟨rfl, b5⟩
  have HS5 := Lib.hid (HS4.out.next b5)
  clear b5 r1 r2 s1 s2
  go_wp2_with fail
  refine (HAL.out _ HS5.out).mono ?_; rintro e w6 ⟨rfl, hs6⟩
  have HB6 := Lib.hid hs6.2
  clear hs6
  go_wp2_with fail
  go_ret
  exact ⟨rfl, HB6.out⟩
end Go.Proofs.YtpcieookddpkhaaDoor
