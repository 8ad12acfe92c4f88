/- What the reference's block returns: Sha.mix, in a row of its own. Conditions: eight words in a row, a block of 64 bytes at least. -/
import Derived.Test.YtjjdaelddicokaaGreatDoorRefSched
set_option linter.unusedVariables false
set_option linter.unusedSimpArgs false
namespace Go.Proofs.YtjjdaelddicokaaGreatDoor
open Go.RowKit
theorem kcell {w : World} {B i : Nat} (h : w.heap[B]? = some (.cells (us Sha.K).toArray 80 (0, 0))) (hi : i < 64) : w.cell? ⟨B, i, none⟩ = some (.int .u32 ((Sha.K.getD i 0 : Nat) : Int)) := by
  rw [cell_of_row _ _ _ _ _ _ h, List.getElem?_toArray]
  exact us_get _ _ (by rw [Sha.K_length]; exact hi)
theorem wcell {w : World} {base g cap i : Nat} {ws : List Nat} (h : w.ownsRow base 80 1 (.slice (some ⟨g, 0, none⟩) 64 cap) 64 (us ws)) (hl : ws.length = 64) (hi : i < 64) : w.cell? ⟨g, i, none⟩ = some (.int .u32 ((ws.getD i 0 : Nat) : Int)) := by
  have := h.cells (g := g) rfl i _ (us_get ws i (by omega))
  rw [Addr.add_lit, Nat.zero_add] at this
  exact this
theorem own_drewN {w : World} {base : Nat} {e : TypeId} {size : Nat} {v : Value} {n : Nat} {xs : List Value} (h : w.ownsRow base e size v n xs) (m : Nat) : (w.drewN m).ownsRow base e size v n xs := h
theorem heap_drewN' {w : World} {g : Nat} {o : Obj} (h : w.heap[g]? = some o) (m : Nat) : (w.drewN m).heap[g]? = some o := h
theorem rot_q (x n : Nat) (z : Int) (hz : z = (n : Int)) (w : World) (hx : x < 4294967296) (h1 : 1 ≤ n) (h2 : n ≤ 31) (m : Nat) :
    Calls Tryz.prog 92 #[.int .u32 (x : Int), .int .i64 z] (w.drewN m) fun e w'' => e = .returned (.int .u32 (Sha.ror x n : Nat)) ∧ ∃ m, w'' = w.drewN m := by
  subst hz; exact Calls.quiet_of (rotr_any x n (w.drewN m) hx h1 h2)
theorem rot_z (x n : Nat) (z : Int) (hz : z = (n : Int)) (w : World) (hx : x < 4294967296) (h1 : 1 ≤ n) (h2 : n ≤ 31) :
    Calls Tryz.prog 92 #[.int .u32 (x : Int), .int .i64 z] w fun e w'' => e = .returned (.int .u32 (Sha.ror x n : Nat)) ∧ ∃ m, w'' = w.drewN m := by
  subst hz; exact rotr_any x n w hx h1 h2
theorem t1_wrap (v : Sha.S8) (kk ww : Nat) (le : v.e < 4294967296) (lf : v.f < 4294967296) (lg : v.g < 4294967296) :
    IntKind.u32.wrap (IntKind.u32.wrap (IntKind.u32.wrap (IntKind.u32.wrap ((v.h : Int) + bits BinOp.xor IntKind.u32 (bits BinOp.xor IntKind.u32 ((Sha.ror v.e 6 : Nat) : Int) ((Sha.ror v.e 11 : Nat) : Int)) ((Sha.ror v.e 25 : Nat) : Int)) +
      bits BinOp.xor IntKind.u32 (bits BinOp.and IntKind.u32 (v.e : Int) (v.f : Int)) (bits BinOp.and IntKind.u32 (bits BinOp.xor IntKind.u32 4294967295 (v.e : Int)) (v.g : Int))) + (kk : Int)) + (ww : Int)) = ((Sha.t1 v kk ww : Nat) : Int) := by
  rw [← t1_val v kk ww le lf lg]
  simp only [IntKind.wrap_u32']
  omega
def W8 (s : Sha.S8) (a b c d e f g h : Value) : Prop := a = .int .u32 (s.a : Int) ∧ b = .int .u32 (s.b : Int) ∧ c = .int .u32 (s.c : Int) ∧ d = .int .u32 (s.d : Int) ∧ e = .int .u32 (s.e : Int) ∧ f = .int .u32 (s.f : Int) ∧ g = .int .u32 (s.g : Int) ∧ h = .int .u32 (s.h : Int)
set_option maxRecDepth 100000 in
set_option maxHeartbeats 8000000 in
theorem rblock_any (s : Sha.S8) (g : Nat) (b : ByteArray) (w : World) (hok : s.ok) (h : 64 ≤ b.size) (hs : b.size ≤ 9223372036854775807) (hrow : w.heap[g]? = some (.cells (st s) 80 (0, 0))) :
    Calls Tryz.prog 83 #[.slice (some ⟨g, 0, none⟩) 8 8, .string b] w fun e w' => ∃ g', e = .returned (.slice (some ⟨g', 0, none⟩) 8 8) ∧ w'.heap[g']? = some (.cells (st (Sha.mix s b.data.toList)) 80 (0, 0)) ∧ w.heap.size ≤ g' ∧ Below w.heap.size w w' := by
  have HC := Lib.hid (fun w => rsched_any b w h hs)
  have HM := Lib.hid (show Sha.mix s b.data.toList = Sha.add8 s (Sha.rnds s (Sha.sched b.data.toList 64) 64) from rfl)
  have hlen := Sha.sched_length b.data.toList 64
  have hslt := Sha.getD_lt (Sha.sched_lt b.data.toList 64)
  generalize Sha.sched b.data.toList 64 = ws at *
  have HLEN := Lib.hid hlen
  have HSLT := Lib.hid hslt
  have HOK := Lib.hid hok
  have hgl : g < w.heap.size := by
    rcases Nat.lt_or_ge g w.heap.size with h' | h'
    · exact h'
    · simp [Array.getElem?_eq_none h'] at hrow
  have HROW := Lib.hid hrow
  clear hlen hslt hok hrow
  go_enter Tryz.func83, Tryz.ntmps83
  go_wp2_with fail
  refine (rconst_any _).mono ?_; rintro e w1 ⟨rfl, rfl⟩
  go_wp2_with fail
  refine (HC.out _).mono ?_; rintro e w2 ⟨vs, rfl, hown, hb⟩
  rw [show (w.alloc (.cells (us Sha.K).toArray 80)).heap.size = w.heap.size + 1 from by simp] at hown
  have hk2 := after_alloc1_new hb
  have hbw := after_alloc1 hb
  have hr2 := (hbw.block _ hgl).trans HROW.out
  rcases hown.2 with ⟨_, h00⟩ | ⟨g2, cap2, cur, rfl, hbg, hg, hnc, hcm, hcs, htk⟩
  · omega
  clear hg hcs htk hb
  have c0 : w2.cell? ⟨g, 0, none⟩ = some (.int .u32 (s.a : Int)) := by rw [cell_of_row _ _ _ _ _ _ hr2]; rfl
  have c1 : w2.cell? ⟨g, 1, none⟩ = some (.int .u32 (s.b : Int)) := by rw [cell_of_row _ _ _ _ _ _ hr2]; rfl
  have c2 : w2.cell? ⟨g, 2, none⟩ = some (.int .u32 (s.c : Int)) := by rw [cell_of_row _ _ _ _ _ _ hr2]; rfl
  have c3 : w2.cell? ⟨g, 3, none⟩ = some (.int .u32 (s.d : Int)) := by rw [cell_of_row _ _ _ _ _ _ hr2]; rfl
  have c4 : w2.cell? ⟨g, 4, none⟩ = some (.int .u32 (s.e : Int)) := by rw [cell_of_row _ _ _ _ _ _ hr2]; rfl
  have c5 : w2.cell? ⟨g, 5, none⟩ = some (.int .u32 (s.f : Int)) := by rw [cell_of_row _ _ _ _ _ _ hr2]; rfl
  have c6 : w2.cell? ⟨g, 6, none⟩ = some (.int .u32 (s.g : Int)) := by rw [cell_of_row _ _ _ _ _ _ hr2]; rfl
  have c7 : w2.cell? ⟨g, 7, none⟩ = some (.int .u32 (s.h : Int)) := by rw [cell_of_row _ _ _ _ _ _ hr2]; rfl
  have HR2 := Lib.hid hr2
  have HK2 := Lib.hid hk2
  have HO2 := Lib.hid hown
  have HB2 := Lib.hid hbw
  clear hr2 hk2 hown hbw
  go_wp2_with fail
  go_quiet (fail)
  replace c4 : (w2.drewN nq).cell? ⟨g, 4, none⟩ = some (.int .u32 (s.e : Int)) := c4
  replace c5 : (w2.drewN nq).cell? ⟨g, 5, none⟩ = some (.int .u32 (s.f : Int)) := c5
  replace c6 : (w2.drewN nq).cell? ⟨g, 6, none⟩ = some (.int .u32 (s.g : Int)) := c6
  replace c7 : (w2.drewN nq).cell? ⟨g, 7, none⟩ = some (.int .u32 (s.h : Int)) := c7
  replace HR2 := Lib.hid (heap_drewN' HR2.out nq)
  replace HK2 := Lib.hid (heap_drewN' HK2.out nq)
  replace HO2 := Lib.hid (own_drewN HO2.out nq)
  replace HB2 := Lib.hid (below_drewN HB2.out nq)
  clear c0 c1 c2 c3
  generalize w2.drewN nq = w3 at *
  go_wp2_with fail
  go_quiet (fail)
  replace HR2 := Lib.hid (heap_drewN' HR2.out nq)
  replace HK2 := Lib.hid (heap_drewN' HK2.out nq)
  replace HO2 := Lib.hid (own_drewN HO2.out nq)
  replace HB2 := Lib.hid (below_drewN HB2.out nq)
  clear c4 c5 c6 c7
  generalize w3.drewN nq = w4 at *
  go_wp2_with fail
  go_loopw [7, 8, 9, 10, 11, 12, 13, 14, 15] (fun a b c d e f gg hh i wr => ∃ k : Nat, k ≤ 64 ∧ i = .int .i64 (k : Int) ∧ W8 (Sha.rnds s ws k) a b c d e f gg hh ∧ wr.heap[g]? = some (.cells (st s) 80 (0, 0)) ∧
      wr.heap[w.heap.size]? = some (.cells (us Sha.K).toArray 80 (0, 0)) ∧ wr.ownsRow (w.heap.size + 1) 80 1 (.slice (some ⟨g2, 0, none⟩) 64 cap2) 64 (us ws) ∧ Below w.heap.size w wr) (fun _ _ _ _ _ _ _ _ i _ => 64 - (intOf i).toNat)
  case atStart => exact ⟨0, by omega, rfl, ⟨rfl, rfl, rfl, rfl, rfl, rfl, rfl, rfl⟩, HR2.out, HK2.out, HO2.out, HB2.out⟩
  case round =>
    clear HR2 HK2 HO2 HB2 HC
    obtain ⟨k, hk, rfl, ⟨rfl, rfl, rfl, rfl, rfl, rfl, rfl, rfl⟩, hR, hK, hO, hb⟩ := hrel
    by_cases hlt : k < 64
    · have vok := Sha.rnds_ok HOK.out ws k
      have HN := Lib.hid (show Sha.rnds s ws (k + 1) = Sha.step (Sha.rnds s ws k) (Sha.K.getD k 0) (ws.getD k 0) from rfl)
      have kj := kcell hK hlt
      have wj := wcell hO HLEN.out hlt
      have lk := Sha.getD_lt Sha.K_lt k
      have lw := HSLT.out k
      generalize Sha.rnds s ws k = v at *
      generalize Sha.K.getD k 0 = kk at *
      generalize ws.getD k 0 = ww at *
      obtain ⟨a, b', c, d, e, f, gg, hh⟩ := v
      obtain ⟨la, lb, lc, ld, le, lf, lg, lh⟩ := vok
      have HR := Lib.hid hR
      have HK := Lib.hid hK
      have HO := Lib.hid hO
      have HB := Lib.hid hb
      clear hR hK hO hb
      simp only [] at la lb lc ld le lf lg lh
      have R2 := Lib.hid (fun w => rot_z a 2 2 rfl w la (by decide) (by decide))
      have R13 := Lib.hid (fun w => rot_z a 13 13 rfl w la (by decide) (by decide))
      have R22 := Lib.hid (fun w => rot_z a 22 22 rfl w la (by decide) (by decide))
      have R6 := Lib.hid (rot_q e 6 6 rfl wr le (by decide) (by decide))
      have R11 := Lib.hid (rot_q e 11 11 rfl wr le (by decide) (by decide))
      have R25 := Lib.hid (rot_q e 25 25 rfl wr le (by decide) (by decide))
      go_upto_region 7 with fail
      go_cut [16] (fun t w' => t = .int .u32 ((Sha.t1 ⟨a, b', c, d, e, f, gg, hh⟩ kk ww : Nat) : Int) ∧ ∃ n, w' = wr.drewN n)
      case first =>
        go_quiet ((go_at_call 92; (first | (with_reducible exact R6.out _) | (with_reducible exact R11.out _) | (with_reducible exact R25.out _))))
        go_wp2_with fail
        go_meet
        refine ⟨?_, _, rfl⟩
        have ht := t1_val ⟨a, b', c, d, e, f, gg, hh⟩ kk ww le lf lg
        simp only [] at ht
        rw [show IntKind.u32.max = 4294967295 from rfl, ← ht]
        congr 1
        omega
      case rest =>
        obtain ⟨rfl, n, rfl⟩ := hcut
        clear R6 R11 R25 kj wj
        replace HR := Lib.hid (heap_drewN' HR.out n)
        replace HK := Lib.hid (heap_drewN' HK.out n)
        replace HO := Lib.hid (own_drewN HO.out n)
        replace HB := Lib.hid (below_drewN HB.out n)
        generalize wr.drewN n = wq at *
        have HT1 := Lib.hid (show Sha.step ⟨a, b', c, d, e, f, gg, hh⟩ kk ww = ⟨(Sha.t1 ⟨a, b', c, d, e, f, gg, hh⟩ kk ww + Sha.t2 ⟨a, b', c, d, e, f, gg, hh⟩) % 4294967296, a, b', c, (d + Sha.t1 ⟨a, b', c, d, e, f, gg, hh⟩ kk ww) % 4294967296, e, f, gg⟩ from rfl)
        have HT2 := Lib.hid (t2_val ⟨a, b', c, d, e, f, gg, hh⟩ la lb lc)
        simp only [] at HT2
        have lt2 : Sha.t2 ⟨a, b', c, d, e, f, gg, hh⟩ < 4294967296 := Nat.mod_lt _ (by omega)
        have lt1 : Sha.t1 ⟨a, b', c, d, e, f, gg, hh⟩ kk ww < 4294967296 := Nat.mod_lt _ (by omega)
        generalize Sha.t1 ⟨a, b', c, d, e, f, gg, hh⟩ kk ww = tt1 at *
        go_wp2_with fail
        refine (R2.out _).mono ?_; rintro e' w' ⟨rfl, m1, rfl⟩
        replace HR := Lib.hid (heap_drewN' HR.out m1)
        replace HK := Lib.hid (heap_drewN' HK.out m1)
        replace HO := Lib.hid (own_drewN HO.out m1)
        replace HB := Lib.hid (below_drewN HB.out m1)
        generalize wq.drewN m1 = wq at *
        go_wp2_with fail
        refine (R13.out _).mono ?_; rintro e' w' ⟨rfl, m1, rfl⟩
        replace HR := Lib.hid (heap_drewN' HR.out m1)
        replace HK := Lib.hid (heap_drewN' HK.out m1)
        replace HO := Lib.hid (own_drewN HO.out m1)
        replace HB := Lib.hid (below_drewN HB.out m1)
        generalize wq.drewN m1 = wq at *
        go_wp2_with fail
        refine (R22.out _).mono ?_; rintro e' w' ⟨rfl, m1, rfl⟩
        replace HR := Lib.hid (heap_drewN' HR.out m1)
        replace HK := Lib.hid (heap_drewN' HK.out m1)
        replace HO := Lib.hid (own_drewN HO.out m1)
        replace HB := Lib.hid (below_drewN HB.out m1)
        generalize wq.drewN m1 = wq at *
        go_wp2_with fail
        go_roundw
        case rel =>
          have HE1 : ((tt1 : Int) + ((Sha.t2 ⟨a, b', c, d, e, f, gg, hh⟩ : Nat) : Int)) % 4294967296 = (((tt1 + Sha.t2 ⟨a, b', c, d, e, f, gg, hh⟩) % 4294967296 : Nat) : Int) := by omega
          have HE2 : ((d : Int) + (tt1 : Int)) % 4294967296 = (((d + tt1) % 4294967296 : Nat) : Int) := by omega
          rw [HT2.out, HE1, HE2]
          have HREL := Lib.hid (show W8 (Sha.rnds s ws (k + 1)) _ _ _ _ _ _ _ _ from by rw [HN.out, HT1.out]; exact ⟨rfl, rfl, rfl, rfl, rfl, rfl, rfl, rfl⟩)
          exact ⟨k + 1, by omega, by go_num, HREL.out, HR.out, HK.out, HO.out, HB.out⟩
        case measure => simp [intOf]; omega
    · obtain rfl : k = 64 := by omega
      have vok := Sha.rnds_ok HOK.out ws 64
      have HF := Lib.hid HM.out
      generalize Sha.rnds s ws 64 = v at *
      have hR := hR
      have c0 : wr.cell? ⟨g, 0, none⟩ = some (.int .u32 (s.a : Int)) := by rw [cell_of_row _ _ _ _ _ _ hR]; rfl
      have c1 : wr.cell? ⟨g, 1, none⟩ = some (.int .u32 (s.b : Int)) := by rw [cell_of_row _ _ _ _ _ _ hR]; rfl
      have c2 : wr.cell? ⟨g, 2, none⟩ = some (.int .u32 (s.c : Int)) := by rw [cell_of_row _ _ _ _ _ _ hR]; rfl
      have c3 : wr.cell? ⟨g, 3, none⟩ = some (.int .u32 (s.d : Int)) := by rw [cell_of_row _ _ _ _ _ _ hR]; rfl
      have c4 : wr.cell? ⟨g, 4, none⟩ = some (.int .u32 (s.e : Int)) := by rw [cell_of_row _ _ _ _ _ _ hR]; rfl
      have c5 : wr.cell? ⟨g, 5, none⟩ = some (.int .u32 (s.f : Int)) := by rw [cell_of_row _ _ _ _ _ _ hR]; rfl
      have c6 : wr.cell? ⟨g, 6, none⟩ = some (.int .u32 (s.g : Int)) := by rw [cell_of_row _ _ _ _ _ _ hR]; rfl
      have c7 : wr.cell? ⟨g, 7, none⟩ = some (.int .u32 (s.h : Int)) := by rw [cell_of_row _ _ _ _ _ _ hR]; rfl
      have HB := Lib.hid hb
      clear hR hK hO hb
      go_wp2_with fail
      go_still_tail 40, (by kernel_rfl)
      change wpList _ _ _ _ _ wr.drew
      go_wp2_with fail
      go_ret
      have e8 : ∀ x y : Nat, ((x : Int) + (y : Int)) % 4294967296 = (((x + y) % 4294967296 : Nat) : Int) := by intro x y; omega
      refine ⟨wr.heap.size, rfl, ?_, HB.out.size, HB.out.drew.alloc HB.out.size _⟩
      rw [HF.out]
      simp only [e8]
      exact heap_alloc_new _ _
end Go.Proofs.YtjjdaelddicokaaGreatDoor
