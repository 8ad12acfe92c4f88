/- What Log and the reference's Used return: Blok.log, Blok.used. Conditions: the blocks of a valid store. -/
import Derived.Test.YtpcieookddpkhaaDoorBlkLog
import Derived.Test.YtpcieookddpkhaaDoorOctPut
import Derived.Test.YtpcieookddpkhaaDoorShaPad
set_option linter.unusedVariables false
set_option linter.unusedSimpArgs false
namespace Go.Proofs.YtpcieookddpkhaaDoor
open Go.RowKit
theorem rused_any (c : Int) (v : Value) (bs : List Blk) (w : World) (hv : Blks w v bs) (hl : bs.length ≤ 1000000) (hf : ∀ b ∈ bs, Blok.fair b) :
    Calls Tryd.prog 22 #[.agg #[.int .i64 c, v]] w fun e w' => e = .returned (.int .i64 (Blok.used bs : Nat)) ∧ Below w.heap.size w w' := by
  have HU := Lib.hid (Blok.log_length hf)
  have HC := Lib.hid (rlog_any c v bs _ (hv.below ((Below.refl _ _).alloc (Nat.le_refl _) (.cells #[.int .i64 c, v] 24))) hl hf)
  obtain ⟨ao, n, cp, rfl⟩ := hv.form
  have hu : (Blok.log bs).length ≤ 1063000000 := by
    rw [HU.out]
    have h1 := Blok.used_short hf
    omega
  clear hv hf
  generalize Blok.log bs = L at *
  go_enter Tryd.func22, Tryd.ntmps22
  go_wp2_with fail
  refine HC.out.mono ?_; rintro e w1 ⟨rfl, b1⟩
  have HB := Lib.hid (after_alloc1 b1)
  clear b1
  go_wp2_with fail
  go_ret
  exact ⟨by rw [← HU.out]; rfl, HB.out⟩
theorem isb_below {B b : Nat} {l : List UInt8} {w w' : World} (h : IsB B b l w) (hb : Below w.heap.size w w') : IsB B b l w' := by
  have key : ∀ p, Lib.BuilderAt 60 5 B b p (Lib.byteCells l) w → Lib.BuilderAt 60 5 B b p (Lib.byteCells l) w' := by
    rintro p ⟨hB, v, hbk, hown, hne⟩
    have hlt : b < w.heap.size := by
      rcases Nat.lt_or_ge b w.heap.size with h' | h'
      · exact h'
      · simp [Array.getElem?_eq_none h'] at hbk
    refine ⟨hB, v, (hb.block b hlt).trans hbk, ⟨hown.1, ?_⟩, hne⟩
    rcases hown.2 with h | ⟨g, cap, cur, hv, hg, hrow, hrest⟩
    · exact .inl h
    · refine .inr ⟨g, cap, cur, hv, hg, ?_, hrest⟩
      have hlt2 : g < w.heap.size := by
        rcases Nat.lt_or_ge g w.heap.size with h' | h'
        · exact h'
        · simp [Array.getElem?_eq_none h'] at hrow
      exact (hb.block g hlt2).trans hrow
  rcases h with h | h
  · exact .inl (key _ h)
  · exact .inr (key _ h)
theorem ws_any (B b : Nat) (l r : List UInt8) (s : ByteArray) (hs : s = T r) (w : World) (h : IsB B b l w) (hlen : l.length + r.length ≤ 1099511627776) (hBw : B ≤ w.heap.size) :
    Calls Tryd.prog 34 #[.pointer (some ⟨b, 0, none⟩), .string s] w fun e w' => e = .returned (.tuple #[.int .i64 s.size, .nilIface]) ∧ (IsB B b (l ++ r) w' ∧ Below B w w') := by
  refine (wstring_any B b (Lib.byteCells l) s w h (by rw [Lib.byteCells_length, hs, T_size]; omega) hBw).mono ?_
  rintro e w' ⟨he, h1, h2⟩
  refine ⟨he, ?_, h2⟩
  unfold IsB
  rw [Lib.byteCells_append]
  subst hs
  exact h1
set_option maxRecDepth 20000 in
set_option maxHeartbeats 2000000 in
theorem log_any (c : Int) (v : Value) (bs : List Blk) (w : World) (hv : Blks w v bs) (hl : bs.length ≤ 1000000) (hf : ∀ b ∈ bs, Blok.fair b) :
    Calls Tryd.prog 19 #[.agg #[.int .i64 c, v]] w fun e w' => e = .returned (.string (T (Blok.log bs))) ∧ Below w.heap.size w w' := by
  obtain ⟨ao, n, cp, rfl⟩ := hv.form
  obtain ⟨rfl, k1⟩ := hv.at
  have HB := Lib.hid (Below.refl w.heap.size w)
  have H1 := Lib.hid k1
  have HF := Lib.hid hf
  have HI0 : Hid (IsB (w.heap.size + 1) (w.heap.size + 1) [] ((w.alloc (.cells #[.int .i64 c, .slice ao bs.length cp] 24)).alloc (.cells #[.pointer none, .slice none 0 0] 60))) := by
    have := Lib.fresh_isBuilder 60 5 (w.alloc (.cells #[.int .i64 c, .slice ao bs.length cp] 24))
    have e : (w.alloc (.cells #[.int .i64 c, .slice ao bs.length cp] 24)).heap.size = w.heap.size + 1 := by simp
    rw [e] at this
    exact this
  clear hv k1 hf
  go_enter Tryd.func19, Tryd.ntmps19
  go_wp2_with fail
  go_loopw [13] (fun i wr => ∃ k : Nat, k ≤ bs.length ∧ i = .int .i64 (k : Int) ∧ IsB (w.heap.size + 1) (w.heap.size + 1) (Blok.log (bs.take k)) wr ∧ Below w.heap.size w wr) (fun i _ => bs.length - (intOf i).toNat)
  case atStart => exact ⟨0, by omega, rfl, HI0.out, (HB.out.alloc (Nat.le_refl _) _).alloc (by simp) _⟩
  case round =>
    obtain ⟨k, hk, rfl, hi, hb⟩ := hrel
    have HII := Lib.hid hi
    have HBB := Lib.hid hb
    have hBw : w.heap.size + 1 ≤ wr.heap.size := by
      have : ∀ p, Lib.BuilderAt 60 5 (w.heap.size + 1) (w.heap.size + 1) p (Lib.byteCells (Blok.log (bs.take k))) wr → w.heap.size + 1 < wr.heap.size := fun p h => h.lt
      rcases hi with h | h
      · exact Nat.le_of_lt (this _ h)
      · exact Nat.le_of_lt (this _ h)
    clear hi hb
    by_cases hlt : k < bs.length
    · obtain ⟨x1, o1, rfl, l1, c0, c1', c2'⟩ := H1.out k hlt
      rw [← HBB.out.cell (p := ⟨x1, o1 + k * 3, none⟩) l1] at c0
      rw [← HBB.out.cell (p := ⟨x1, o1 + k * 3 + 1, none⟩) l1] at c1'
      rw [← HBB.out.cell (p := ⟨x1, o1 + k * 3 + 2, none⟩) l1] at c2'
      have hfk := HF.out bs[k] (List.getElem_mem hlt)
      have HLT := Lib.hid (Blok.log_take bs k hlt)
      have hL : (Blok.log (bs.take k)).length ≤ 1063000000 := by
        have hft : ∀ b ∈ bs.take k, Blok.fair b := fun b hb => HF.out b (List.mem_of_mem_take hb)
        rw [Blok.log_length hft]
        have h1 := Blok.used_short hft
        have h2 : (bs.take k).length * 1063 ≤ 1000000 * 1063 := Nat.mul_le_mul_right _ (by rw [List.length_take]; omega)
        omega
      have hR : (Blok.rec bs[k]).length ≤ 1063 := by rw [Blok.rec_length hfk]; have := hfk.2.2.1; omega
      have h1 : (Oct.putS bs[k].kd 1).length = 1 := by rw [Blok.put1 ⟨hfk.1, hfk.2.1⟩, Oct.le_length]
      have h2 : (Oct.putS bs[k].dt.length 2).length = 2 := by rw [Blok.put2 hfk.2.2.1, Oct.le_length]
      obtain ⟨hf1, hf2, hd, hs⟩ := hfk
      have HRT := Lib.hid (show ⟨#[102, 115, 98, 49]⟩ ++ T (Oct.putS bs[k].kd 1) ++ T (Oct.putS bs[k].dt.length 2) ++ T bs[k].sc ++ T bs[k].dt = T (Blok.rec bs[k]) from by
        show T [102, 115, 98, 49] ++ T (Oct.putS bs[k].kd 1) ++ T (Oct.putS bs[k].dt.length 2) ++ T bs[k].sc ++ T bs[k].dt = T (Blok.rec bs[k])
        rw [T_append, T_append, T_append, T_append]; rfl)
      have HP := Lib.hid (fun w => put_any bs[k].kd 1 w (by omega))
      have HQ := Lib.hid (fun w => put_any (bs[k].dt.length : Int) 2 w (by omega))
      have HW := Lib.hid (fun w' (h : IsB (w.heap.size + 1) (w.heap.size + 1) (Blok.log (bs.take k)) w') (h2 : w.heap.size + 1 ≤ w'.heap.size) => ws_any (w.heap.size + 1) (w.heap.size + 1) (Blok.log (bs.take k)) (Blok.rec bs[k]) _ HRT.out w' h (by omega) h2)
      unfold PutSays at HP HQ
      generalize Blok.log (bs.take k) = L at *
      generalize hRR : Blok.rec bs[k] = R at *
      generalize Oct.putS bs[k].kd 1 = A at *
      generalize Oct.putS bs[k].dt.length 2 = B at *
      clear hRR hL hR HRT
      go_wp2_with fail
      refine (HP.out _).mono ?_; rintro e w1 ⟨rfl, b1⟩
      have hr := after_alloc1_new b1
      have d0 : w1.cell? ⟨wr.heap.size, 2, none⟩ = some (.string (T bs[k].dt)) := by rw [cell_of_row _ _ _ _ _ _ hr]; rfl
      have e0 : w1.cell? ⟨wr.heap.size, 0, none⟩ = some (.string (T bs[k].sc)) := by rw [cell_of_row _ _ _ _ _ _ hr]; rfl
      have HB1 := Lib.hid (after_alloc1 b1)
      clear b1 hr
      go_wp2_with fail
      refine (HQ.out _).mono ?_; rintro e w2 ⟨rfl, b2⟩
      have hltb : wr.heap.size < w1.heap.size := block_lt_of_cell d0
      have q0 : w2.cell? ⟨wr.heap.size, 0, none⟩ = some (.string (T bs[k].sc)) := by rw [b2.cell (p := ⟨wr.heap.size, 0, none⟩) hltb]; exact e0
      have q2 : w2.cell? ⟨wr.heap.size, 2, none⟩ = some (.string (T bs[k].dt)) := by rw [b2.cell (p := ⟨wr.heap.size, 2, none⟩) hltb]; exact d0
      have HB2 := Lib.hid (bnext HB1.out b2)
      have s1 : 4 + A.length ≤ 9223372036854775807 := by omega
      have s2 : 4 + A.length + B.length ≤ 9223372036854775807 := by omega
      have s3 : 4 + A.length + B.length + bs[k].sc.length ≤ 9223372036854775807 := by omega
      have s4 : 4 + A.length + B.length + bs[k].sc.length + bs[k].dt.length ≤ 9223372036854775807 := by omega
      have HI2 := Lib.hid (isb_below HII.out HB2.out)
      have hBw2 : w.heap.size + 1 ≤ w2.heap.size := Nat.le_trans hBw HB2.out.size
      clear b2 HB1 d0 e0
      go_wp2_with fail
      refine (HW.out w2 HI2.out hBw2).mono ?_; rintro e w3 ⟨rfl, h3, b3⟩
      have HI3 := Lib.hid h3
      have HB3 := Lib.hid ((bnext HBB.out HB2.out).trans (b3.mono (Nat.le_succ _)))
      clear h3 b3
      go_wp2_with fail
      go_roundw
      case rel => exact ⟨k + 1, by omega, by go_num, by rw [HLT.out]; exact HI3.out, HB3.out⟩
      case measure => simp [intOf]; omega
    · obtain rfl : k = bs.length := by omega
      have HT := Lib.hid (List.take_of_length_le (l := bs) (i := bs.length) (Nat.le_refl _))
      rw [HT.out] at HII
      go_wp2_with fail
      refine (Builder_String_any _ _ _ _ HII.out hBw).mono ?_; rintro e w1 ⟨rfl, b1⟩
      have HB1 := Lib.hid (HBB.out.trans (b1.mono (Nat.le_succ _)))
      clear b1
      go_wp2_with fail
      go_ret
      exact ⟨rfl, HB1.out⟩
end Go.Proofs.YtpcieookddpkhaaDoor
