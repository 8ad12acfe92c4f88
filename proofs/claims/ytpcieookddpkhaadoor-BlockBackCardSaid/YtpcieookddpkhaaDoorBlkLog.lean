/- What the reference's record, Log and Used return: Blok.rec, Blok.log, Blok.used. Conditions: the blocks of a valid store. -/
import Derived.Test.YtpcieookddpkhaaDoorBlkStore
import Derived.Test.YtpcieookddpkhaaDoorOctRef
set_option linter.unusedVariables false
set_option linter.unusedSimpArgs false
namespace Go.Proofs.YtpcieookddpkhaaDoor
open Go.RowKit
set_option maxRecDepth 20000 in
set_option maxHeartbeats 1000000 in
theorem rrec_any (b : Blk) (w : World) (hk : 1 ≤ b.kd ∧ b.kd ≤ 4) (hd : b.dt.length ≤ 1024) (hs : b.sc.length = 32) (h1 : (Oct.putS b.kd 1).length = 1) (h2 : (Oct.putS b.dt.length 2).length = 2) :
    Calls Tryd.prog 36 #[.agg #[.string (T b.sc), .int .i64 b.kd, .string (T b.dt)]] w fun e w' => e = .returned (.string (T (Blok.rec b))) ∧ Below w.heap.size w w' := by
  have HF := Lib.hid (show T (Blok.rec b) = ⟨#[102, 115, 98, 49]⟩ ++ T (Oct.putS b.kd 1) ++ T (Oct.putS b.dt.length 2) ++ T b.sc ++ T b.dt from by
    show T (Blok.rec b) = T [102, 115, 98, 49] ++ T (Oct.putS b.kd 1) ++ T (Oct.putS b.dt.length 2) ++ T b.sc ++ T b.dt
    rw [T_append, T_append, T_append, T_append]; rfl)
  have HP := Lib.hid (fun w => rput_any b.kd 1 w (by omega))
  have HQ := Lib.hid (fun w => rput_any (b.dt.length : Int) 2 w (by omega))
  unfold PutSays at HP HQ
  generalize Oct.putS b.kd 1 = A at *
  generalize Oct.putS b.dt.length 2 = B at *
  go_enter Tryd.func36, Tryd.ntmps36
  go_wp2_with fail
  refine (HP.out _).mono ?_; rintro e w1 ⟨rfl, b1⟩
  have hr := after_alloc1_new b1
  have d0 : w1.cell? ⟨w.heap.size, 2, none⟩ = some (.string (T b.dt)) := by rw [cell_of_row _ _ _ _ _ _ hr]; rfl
  have c0 : w1.cell? ⟨w.heap.size, 0, none⟩ = some (.string (T b.sc)) := by rw [cell_of_row _ _ _ _ _ _ hr]; rfl
  have HB1 := Lib.hid (after_alloc1 b1)
  clear b1 hr
  go_wp2_with fail
  refine (HQ.out _).mono ?_; rintro e w2 ⟨rfl, b2⟩
  have hlt : w.heap.size < w1.heap.size := block_lt_of_cell d0
  have q0 : w2.cell? ⟨w.heap.size, 0, none⟩ = some (.string (T b.sc)) := by rw [b2.cell (p := ⟨w.heap.size, 0, none⟩) hlt]; exact c0
  have q2 : w2.cell? ⟨w.heap.size, 2, none⟩ = some (.string (T b.dt)) := by rw [b2.cell (p := ⟨w.heap.size, 2, none⟩) hlt]; exact d0
  have HB2 := Lib.hid (bnext HB1.out b2)
  have s1 : 4 + A.length ≤ 9223372036854775807 := by omega
  have s2 : 4 + A.length + B.length ≤ 9223372036854775807 := by omega
  have s3 : 4 + A.length + B.length + b.sc.length ≤ 9223372036854775807 := by omega
  have s4 : 4 + A.length + B.length + b.sc.length + b.dt.length ≤ 9223372036854775807 := by omega
  clear b2 HB1
  go_wp2_with fail
  go_ret
  exact ⟨by rw [HF.out]; rfl, HB2.out⟩
namespace Blok
/-- A block that a store may hold. -/
def fair (b : Blk) : Prop := 1 ≤ b.kd ∧ b.kd ≤ 4 ∧ b.dt.length ≤ 1024 ∧ b.sc.length = 32
theorem fair_of {bs : List Blk} {i : Nat} {b : Blk} (h : okAt bs i b) : fair b := by
  obtain ⟨h1, h2, h3, _⟩ := h
  unfold known at h1
  rw [Bool.and_eq_true, decide_eq_true_eq, decide_eq_true_eq] at h1
  exact ⟨h1.1, h1.2, h2, h3⟩
theorem put1 {k : Int} (h : 1 ≤ k ∧ k ≤ 4) : Oct.putS k 1 = Oct.le 1 k.toNat := by
  have e : Oct.putE k 1 = 0 := by
    unfold Oct.putE
    rw [if_neg (by omega), if_neg (by simp; omega)]
  unfold Oct.putS; rw [if_pos e]; rfl
theorem put2 {n : Nat} (h : n ≤ 1024) : Oct.putS (n : Int) 2 = Oct.le 2 n := by
  have e : Oct.putE (n : Int) 2 = 0 := by
    unfold Oct.putE
    rw [if_neg (by omega), if_neg (by simp; omega)]
  unfold Oct.putS; rw [if_pos e]; rfl
theorem rec_length {b : Blk} (h : fair b) : (rec b).length = 39 + b.dt.length := by
  unfold rec
  rw [put1 ⟨h.1, h.2.1⟩, put2 h.2.2.1]
  simp only [List.length_append, Oct.le_length, h.2.2.2]
  simp
theorem log_length {bs : List Blk} (h : ∀ b ∈ bs, fair b) : (log bs).length = used bs := by
  induction bs with
  | nil => rfl
  | cons b l ih =>
    rw [log, used, List.length_append, rec_length (h b (by simp)), ih (fun x hx => h x (by simp [hx]))]
theorem log_take (bs : List Blk) (k : Nat) (h : k < bs.length) : log (bs.take (k + 1)) = log (bs.take k) ++ rec bs[k] := by
  rw [List.take_succ_eq_append_getElem h, log_append, log, log, List.append_nil]
theorem used_short {bs : List Blk} (h : ∀ b ∈ bs, fair b) : used bs ≤ bs.length * 1063 := by
  induction bs with
  | nil => simp [used]
  | cons b l ih =>
    have h0 := (h b (by simp)).2.2.1
    have := ih (fun x hx => h x (by simp [hx]))
    rw [used, List.length_cons]; omega
end Blok
theorem rrec_T (b : Blk) (w : World) (h : Blok.fair b) :
    Calls Tryd.prog 36 #[.agg #[.string (T b.sc), .int .i64 b.kd, .string (T b.dt)]] w fun e w' => e = .returned (.string (T (Blok.rec b))) ∧ Below w.heap.size w w' :=
  rrec_any b w ⟨h.1, h.2.1⟩ h.2.2.1 h.2.2.2 (by rw [Blok.put1 ⟨h.1, h.2.1⟩, Oct.le_length]) (by rw [Blok.put2 h.2.2.1, Oct.le_length])
set_option maxRecDepth 20000 in
set_option maxHeartbeats 1000000 in
theorem rlog_any (c : Int) (v : Value) (bs : List Blk) (w : World) (hv : Blks w v bs) (hl : bs.length ≤ 1000000) (hf : ∀ b ∈ bs, Blok.fair b) :
    Calls Tryd.prog 20 #[.agg #[.int .i64 c, v]] w fun e w' => e = .returned (.string (T (Blok.log bs))) ∧ Below w.heap.size w w' := by
  obtain ⟨ao, n, cp, rfl⟩ := hv.form
  obtain ⟨rfl, k1⟩ := hv.at
  have HB := Lib.hid (Below.refl w.heap.size w)
  have H1 := Lib.hid k1
  have HF := Lib.hid hf
  clear hv k1 hf
  go_enter Tryd.func20, Tryd.ntmps20
  go_wp2_with fail
  go_loopw [3, 4] (fun m i wr => ∃ k : Nat, k ≤ bs.length ∧ i = .int .i64 (k : Int) ∧ m = .string (T (Blok.log (bs.take k))) ∧ wr.heap[w.heap.size]? = some (.cells #[.int .i64 c, .slice ao bs.length cp] 24 (0, 0)) ∧ Below w.heap.size w wr) (fun _ i _ => bs.length - (intOf i).toNat)
  case atStart => exact ⟨0, by omega, rfl, rfl, heap_alloc_new _ _, HB.out.alloc (Nat.le_refl _) _⟩
  case round =>
    obtain ⟨k, hk, rfl, rfl, hr1, hb⟩ := hrel
    have q0 : wr.cell? ⟨w.heap.size, 1, none⟩ = some (.slice ao bs.length cp) := by rw [cell_of_row _ _ _ _ _ _ hr1]; rfl
    have HR1 := Lib.hid hr1
    have HBB := Lib.hid hb
    clear hr1 hb
    by_cases hlt : k < bs.length
    · obtain ⟨x1, o1, rfl, l1, c0, c1', c2'⟩ := H1.out k hlt
      rw [← HBB.out.cell (p := ⟨x1, o1 + k * 3, none⟩) l1] at c0
      rw [← HBB.out.cell (p := ⟨x1, o1 + k * 3 + 1, none⟩) l1] at c1'
      rw [← HBB.out.cell (p := ⟨x1, o1 + k * 3 + 2, none⟩) l1] at c2'
      have hfk := HF.out bs[k] (List.getElem_mem hlt)
      have HRC := Lib.hid (rrec_T bs[k] wr hfk)
      have HLT := Lib.hid (Blok.log_take bs k hlt)
      have hL : (Blok.log (bs.take k)).length ≤ 1063000000 := by
        have hft : ∀ b ∈ bs.take k, Blok.fair b := fun b hb => HF.out b (List.mem_of_mem_take hb)
        rw [Blok.log_length hft]
        have h1 := Blok.used_short hft
        have h2 : (bs.take k).length * 1063 ≤ 1000000 * 1063 := Nat.mul_le_mul_right _ (by rw [List.length_take]; omega)
        omega
      have hR : (Blok.rec bs[k]).length ≤ 1063 := by rw [Blok.rec_length hfk]; have := hfk.2.2.1; omega
      have hs : (Blok.log (bs.take k)).length + (Blok.rec bs[k]).length ≤ 9223372036854775807 := by omega
      generalize Blok.log (bs.take k) = L at *
      generalize hRR : Blok.rec bs[k] = R at *
      clear hRR hL hR hfk
      go_wp2_with fail
      refine HRC.out.mono ?_; rintro e w1 ⟨rfl, b1⟩
      have hlt1 : w.heap.size < wr.heap.size := block_lt_of_cell q0
      have HR2 := Lib.hid ((b1.block _ hlt1).trans HR1.out)
      have HB2 := Lib.hid (bnext HBB.out b1)
      clear b1
      go_wp2_with fail
      go_roundw
      case rel => exact ⟨k + 1, by omega, by go_num, by rw [HLT.out, ← T_append], HR2.out, HB2.out⟩
      case measure => simp [intOf]; omega
    · obtain rfl : k = bs.length := by omega
      have HT := Lib.hid (List.take_of_length_le (l := bs) (i := bs.length) (Nat.le_refl _))
      rw [HT.out]
      go_wp2_with fail
      go_ret
      exact ⟨rfl, HBB.out⟩
end Go.Proofs.YtpcieookddpkhaaDoor
