/- The law BlockLoads: it returns true. Conditions: the 64 constants in the variable. -/
import Derived.Test.YtpcieookddpkhaaDoorBlkAlive
import Derived.Test.YtpcieookddpkhaaDoorBlkRLoad
set_option linter.unusedVariables false
set_option linter.unusedSimpArgs false
namespace Go.Proofs.YtpcieookddpkhaaDoor
open Go.RowKit
theorem lstore_reads {W : World} {g : Nat} {c : Int} {v : Value} (h : W.heap[g]? = some (.cells #[.int .i64 c, v] 24 (0, 0))) : W.cell? ⟨g, 0, none⟩ = some (.int .i64 c) ∧ W.cell? ⟨g, 1, none⟩ = some v := by
  refine ⟨?_, ?_⟩
  · rw [cell_of_row _ _ _ _ _ _ h]; rfl
  · rw [cell_of_row _ _ _ _ _ _ h]; rfl
theorem Blok.load_len (l : List UInt8) (most : Int) : (Blok.load l most).2.1.length ≤ 4096 := by
  have key : ∀ (cap : Int) (l : List UInt8) (n : Nat) (acc : List Blk) (u : Nat) (r : List Blk × Nat), Blok.scan cap l n acc u = some r → (acc.length : Int) ≤ cap → (r.1.length : Int) ≤ cap := by
    intro cap l n
    induction n with
    | zero => intro acc u r h hc; simp only [Blok.scan, Option.some.injEq] at h; subst h; exact hc
    | succ n ih =>
      intro acc u r h hc
      rw [Blok.scan] at h
      split at h
      · simp only [Option.some.injEq] at h; subst h; exact hc
      · split at h
        · exact ih _ _ _ h hc
        · split at h
          · cases h
          · exact ih _ _ _ h (by simp; omega)
  have hc := Blok.capOf_ge most
  unfold Blok.load
  cases h : Blok.scan (Blok.capOf most) l (l.length + 1) [] 0 with
  | none => simp [Blok.fin]
  | some r =>
    have := key _ _ _ _ _ _ h (by simp; omega)
    obtain ⟨a, u⟩ := r
    unfold Blok.fin
    simp only
    split
    · simp
    · simp only at this ⊢; omega
set_option maxRecDepth 20000 in
set_option maxHeartbeats 4000000 in
theorem loads_T (l : List UInt8) (most : Int) (w : World) (hl : l.length ≤ 9223372036854775807) (hK : KIn w) :
    Calls Tryd.prog 5 #[.string (T l), .int .i64 most] w fun e w' => e = .returned (.bool true) ∧ Below w.heap.size w w' := by
  have HB := Lib.hid (Below.refl w.heap.size w)
  have HAL := Lib.hid (fun (W : World) (h : Below w.heap.size w W) => (alive_any W (hK.below h)).mono fun e w' (h' : e = _ ∧ Below W.heap.size W w') => (⟨h'.1, bnext h h'.2⟩ : e = .returned (.bool true) ∧ Below w.heap.size w w'))
  have HLO := Lib.hid (fun (hl : l.length ≤ 1000000) (W : World) (h : Below w.heap.size w W) => load_own l most W hl (hK.below h))
  have HRL := Lib.hid (fun (hl : l.length ≤ 1000000) (W : World) => rload_any l most W hl)
  have HLL := Lib.hid (Blok.load_len l most)
  unfold BkLoadOwn at HLO
  unfold BkLoadSays at HRL
  generalize Blok.load l most = P at *
  obtain ⟨c, bs, n, E⟩ := P
  simp only [] at *
  clear hK
  rcases Nat.lt_or_ge 20000 l.length with hd2 | hd2
  · have hdi : (20000 : Int) < l.length := by omega
    go_enter Tryd.func5, Tryd.ntmps5
    go_wp2_with fail
    refine (HAL.out _ HB.out).mono ?_; rintro e w2 ⟨rfl, hs2⟩
    have HB2 := Lib.hid hs2
    clear hs2
    go_wp2_with fail
    go_ret
    exact ⟨rfl, HB2.out⟩
  have hdi : (l.length : Int) ≤ 20000 := by omega
  have hd6 : l.length ≤ 1000000 := by omega
  go_enter Tryd.func5, Tryd.ntmps5
  go_wp2_with fail
  refine (HLO.out hd6 _ HB.out).mono ?_; rintro e w3 ⟨v3, rfl, own3, b3⟩
  obtain ⟨a3, c3, rfl⟩ := own_slice own3
  have b3' := b3.alloc b3.size (.cells #[.int .i64 c, .slice a3 bs.length c3] 24)
  have HB3 := Lib.hid b3'
  have HR3 := Lib.hid (heap_alloc_new w3 (.cells #[.int .i64 c, .slice a3 bs.length c3] 24))
  have HV3 := Lib.hid (blks_own (own3.alloc (.cells #[.int .i64 c, .slice a3 bs.length c3] 24)))
  clear own3 b3 b3'
  go_wp2_with fail
  refine (HRL.out hd6 _).mono ?_; rintro e w4 ⟨v4, rfl, hv4, b4⟩
  obtain ⟨a4, n4, c4, rfl⟩ := hv4.form
  have b4' := b4.alloc b4.size (.cells #[.int .i64 c, .slice a4 n4 c4] 24)
  have HB4 := Lib.hid (bnext HB3.out b4')
  have HR4 := Lib.hid (heap_alloc_new w4 (.cells #[.int .i64 c, .slice a4 n4 c4] 24))
  have HV4 := Lib.hid (hv4.below ((Below.refl w4.heap.size w4).alloc (Nat.le_refl _) (.cells #[.int .i64 c, .slice a4 n4 c4] 24)))
  have HR34 := Lib.hid ((b4'.block _ (row_lt HR3.out)).trans HR3.out)
  have HV34 := Lib.hid (HV3.out.below b4')
  clear hv4 b4 b4'
  go_upto_region 5 with fail
  generalize w4.heap.size = g4 at *
  generalize w4.alloc (.cells #[.int .i64 c, .slice a4 n4 c4] 24) = W4 at *
  have hll : bs.length ≤ 1000000 := by have := HLL.out; omega
  have HSA := Lib.hid (same_any c (.slice a3 bs.length c3) bs c (.slice a4 n4 c4) bs W4 HV34.out HV4.out hll hll)
  rw [Blok.same_yes] at HSA
  obtain ⟨r1, r2⟩ := lstore_reads HR34.out
  obtain ⟨s1, s2⟩ := lstore_reads HR4.out
  go_wp2_with fail
  refine HSA.out.mono ?_; rintro e w5 ⟨rfl, b5⟩
  have HB5 := Lib.hid (bnext HB4.out b5)
  clear b5 r1 r2 s1 s2
  go_wp2_with fail
  refine (HAL.out _ HB5.out).mono ?_; rintro e w6 ⟨rfl, hs6⟩
  have HB6 := Lib.hid hs6
  clear hs6
  go_wp2_with fail
  go_ret
  exact ⟨rfl, HB6.out⟩
end Go.Proofs.YtpcieookddpkhaaDoor
