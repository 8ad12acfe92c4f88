/- A TClunk as bytes; a client's own lists. Conditions: those that each theorem names. -/
import Derived.Test.YtfibaopngpfmjaaGreatDoorRzB3
import Derived.Test.YtfibaopngpfmjaaGreatDoorRzB4
import Derived.Test.YtfibaopngpfmjaaGreatDoorRzA1
import Derived.OwnWalk
set_option linter.unusedVariables false
set_option linter.unusedSimpArgs false
set_option maxRecDepth 100000
set_option maxHeartbeats 8000000
namespace Go.Proofs.YtfibaopngpfmjaaGreatDoor
open Go.RowKit Go.Proofs
/-- The writer's block: no error, the bytes so far. -/
def WrRow (W : World) (g : Nat) (s : List UInt8) : Prop := W.heap[g]? = some (.cells #[.string (T s), .int .i64 0] 182 (0, 0))
theorem WrRow.reads {W : World} {g : Nat} {s : List UInt8} (h : WrRow W g s) : (W.cell? ⟨g, 0, none⟩ = some (.string (T s)) ∧ W.cell? ⟨g, 1, none⟩ = some (.int .i64 0)) ∧ W.frozen? ⟨g, 0, none⟩ = false ∧ W.frozen? ⟨g, 1, none⟩ = false := by
 unfold WrRow at h
 refine ⟨⟨?_, ?_⟩, ?_, ?_⟩
 all_goals first
  | (rw [Lib.cell_of_heap h]; rfl)
  | (exact Lib.frozen_of_heap h _)
theorem WrRow.next {W W' : World} {g : Nat} {s : List UInt8} (h : WrRow W g s) (hb : Below W.heap.size W W') : WrRow W' g s := (hb.block _ (row_ltP h)).trans h
theorem wadd_any (g : Nat) (s p : List UInt8) (w : World) (h : WrRow w g s) (hl : s.length + p.length ≤ 1000000) :
  Calls Tryz.prog 187 #[.pointer (some ⟨g, 0, none⟩), .string (T p), .int .i64 0] w fun e w' => e = .returned (.tuple #[]) ∧ WrRow w' g (s ++ p) ∧ w.grownBy w' (some g) := by
 obtain ⟨⟨c0, c1⟩, f0, f1⟩ := h.reads
 have h1 := heap_setCell_same w g 1 _ _ (.int .i64 0) h
 have h2 := heap_setCell_same _ g 0 _ _ (.string (T (s ++ p))) h1
 have HW := lh (show WrRow ((w.setCell ⟨g, 1, none⟩ (.int .i64 0)).setCell ⟨g, 0, none⟩ (.string (T (s ++ p)))) g (s ++ p) from h2)
 have HG := lh (grown_setG (grown_setG (below_grownBy (Below.refl _ w) (some g)) 1 (.int .i64 0)) 0 (.string (T (s ++ p))))
 have hn : ¬ 9223372036854775807 < s.length + p.length := by omega
 have e1 : T s ++ T p = T (s ++ p) := T_append s p
 rw [← e1] at HW HG
 clear h h1 h2
 go_enter Tryz.func187, Tryz.ntmps187
 go_wp2_with fail
 first | go_end0 | refine bodyPost_ret (results_none rfl _ _ _) rfl ?_
 exact ⟨rfl, HW.out, HG.out⟩
theorem put_num (n : Int) (k : Nat) (w : World) (hk : 1 ≤ k) (hk2 : k ≤ 8) (hn : 0 ≤ n) (hf : n < 256 ^ k) :
  Calls Tryz.prog 128 #[.int .i64 n, .int .i64 (k : Int)] w fun e w' => e = .returned (.tuple #[.string (T (Oct.le k n.toNat)), .int .i64 0]) ∧ Below w.heap.size w w' := by
 refine (put_good n k w hk hk2 hn hf).mono ?_
 intro e w' h
 unfold PutSays at h
 have e1 : Oct.putE n (k : Int) = 0 := by
  unfold Oct.putE
  rw [if_neg (by omega), if_neg (by simp; omega)]
 have e2 : Oct.putS n (k : Int) = Oct.le k n.toNat := by
  unfold Oct.putS
  rw [e1, if_pos rfl]
  simp
 rw [e1, e2] at h
 exact h
theorem wnum_any (g : Nat) (s : List UInt8) (n : Int) (k : Nat) (w : World) (h : WrRow w g s) (hl : s.length ≤ 900000) (hk : 1 ≤ k) (hk2 : k ≤ 8) (hn : 0 ≤ n) (hf : n < 256 ^ k) :
  Calls Tryz.prog 126 #[.pointer (some ⟨g, 0, none⟩), .int .i64 n, .int .i64 (k : Int)] w fun e w' => e = .returned (.tuple #[]) ∧ WrRow w' g (s ++ Oct.le k n.toNat) ∧ w.grownBy w' (some g) := by
 have HP := lh (put_num n k w hk hk2 hn hf)
 have HA := lh (fun (W : World) (h : WrRow W g s) => wadd_any g s (Oct.le k n.toNat) W h (by rw [Oct.le_length]; omega))
 have HS := lh h
 clear h hl hn hf
 generalize Oct.le k n.toNat = p at *
 generalize (k : Int) = kk at *
 go_enter Tryz.func126, Tryz.ntmps126
 go_wp2_with fail
 (with_reducible refine HP.out.mono ?_); rintro e w1 ⟨rfl, b1⟩
 have HS1 := lh (HS.out.next b1)
 have HG1 := lh (below_grownBy b1 (some g))
 clear b1
 go_wp2_with fail
 have hs1 := HS1.out
 (with_reducible refine (HA.out _ hs1).mono ?_); rintro e w2 ⟨rfl, hs2, g2⟩
 have HS2 := lh hs2
 have HG2 := lh (HG1.out.trans g2)
 clear hs2 g2 hs1
 go_wp2_with fail
 first | go_end0 | refine bodyPost_ret (results_none rfl _ _ _) rfl ?_
 exact ⟨rfl, HS2.out, HG2.out⟩
theorem layout_clunk (w : World) : Calls Tryz.prog 32 #[.int .i64 120] w fun e w' => e = .returned (.string (T [102])) ∧ w' = w := by
 go_enter Tryz.func32, Tryz.ntmps32
 go_wp2_with fail
 go_ret
 exact ⟨rfl, rfl⟩
theorem wfield_clunk (g : Nat) (s : List UInt8) (t f : Int) (w : World) (h : WrRow w g s) (hl : s.length ≤ 900000) (hf0 : 0 ≤ f) (hf1 : f ≤ 4294967294) :
  Calls Tryz.prog 127 #[.pointer (some ⟨g, 0, none⟩), .agg (clm t f).cs.toArray, .int .u8 102] w fun e w' => e = .returned (.tuple #[]) ∧ WrRow w' g (s ++ Oct.le 4 f.toNat) ∧ w.grownBy w' (some g) := by
 have HB := lh (alloc_below w (mgobj (clm t f)))
 have H1 := lh (heap_alloc_new w (mgobj (clm t f)))
 have HS := lh (h.next HB.out)
 have HNU := lh (fun (W : World) (h : WrRow W g s) => show Calls Tryz.prog 126 #[.pointer (some ⟨g, 0, none⟩), .int .i64 f, .int .i64 4] W fun e w' => e = .returned (.tuple #[]) ∧ WrRow w' g (s ++ Oct.le 4 f.toNat) ∧ W.grownBy w' (some g) from wnum_any g s f 4 W h hl (by omega) (by omega) hf0 (by omega))
 have HC := lh (show ∀ W : World, W.heap[w.heap.size]? = some (mgobj (clm t f)) → W.cell? ⟨w.heap.size, 2, none⟩ = some (.int .i64 f) from fun W h => by rw [Lib.cell_of_heap h]; rfl)
 unfold mgobj at *
 clear h hl hf0 hf1
 generalize (clm t f).cs = cs at *
 go_enter Tryz.func127, Tryz.ntmps127
 go_upto_region 1 with fail
 generalize World.alloc _ _ = w1 at *
 have c2 := HC.out _ H1.out
 go_wp2_with fail
 have hs1 := HS.out
 (with_reducible refine (HNU.out _ hs1).mono ?_); rintro e w2 ⟨rfl, hs2, g2⟩
 have HS2 := lh hs2
 have HG2 := lh ((below_grownBy HB.out (some g)).trans g2)
 clear hs2 g2 hs1
 go_wp2_with fail
 first | go_end0 | refine bodyPost_ret (results_none rfl _ _ _) rfl ?_
 exact ⟨rfl, HS2.out, HG2.out⟩
def clbytes (t f : Int) : List UInt8 := Oct.le 4 11 ++ (Oct.le 1 120 ++ Oct.le 2 t.toNat ++ Oct.le 4 f.toNat)
theorem put_clunk (t f : Int) (ht0 : 0 ≤ t) (ht1 : t ≤ 65534) (hf0 : 0 ≤ f) (hf1 : f ≤ 4294967294) (w : World) :
  Calls Tryz.prog 71 #[.agg (clm t f).cs.toArray] w fun e w' => e = .returned (.tuple #[.string (T (clbytes t f)), .int .i64 0]) ∧ Below w.heap.size w w' := by
 have HB := lh (alloc_below w (mgobj (clm t f)))
 have H1 := lh (heap_alloc_new w (mgobj (clm t f)))
 have HCK := lh (fun W => check_clunk t f ht0 ht1 hf0 hf1 W)
 have HN1 := lh (fun (g : Nat) (W : World) (h : WrRow W g []) => show Calls Tryz.prog 126 #[.pointer (some ⟨g, 0, none⟩), .int .i64 120, .int .i64 1] W fun e w' => e = .returned (.tuple #[]) ∧ WrRow w' g (Oct.le 1 120) ∧ W.grownBy w' (some g) from wnum_any g [] 120 1 W h (by simp) (by omega) (by omega) (by omega) (by omega))
 have HN2 := lh (fun (g : Nat) (W : World) (h : WrRow W g (Oct.le 1 120)) => show Calls Tryz.prog 126 #[.pointer (some ⟨g, 0, none⟩), .int .i64 t, .int .i64 2] W fun e w' => e = .returned (.tuple #[]) ∧ WrRow w' g (Oct.le 1 120 ++ Oct.le 2 t.toNat) ∧ W.grownBy w' (some g) from wnum_any g (Oct.le 1 120) t 2 W h (by rw [Oct.le_length]; omega) (by omega) (by omega) ht0 (by omega))
 have HFI := lh (fun (g : Nat) (W : World) (h : WrRow W g (Oct.le 1 120 ++ Oct.le 2 t.toNat)) => wfield_clunk g (Oct.le 1 120 ++ Oct.le 2 t.toNat) t f W h (by rw [List.length_append, Oct.le_length, Oct.le_length]; omega) hf0 hf1)
 have HLY := lh layout_clunk
 have HPS := lh (fun (W : World) => show Calls Tryz.prog 128 #[.int .i64 11, .int .i64 4] W fun e w' => e = .returned (.tuple #[.string (T (Oct.le 4 11)), .int .i64 0]) ∧ Below W.heap.size W w' from put_num 11 4 W (by omega) (by omega) (by omega) (by omega))
 have HC := lh (show ∀ W : World, W.heap[w.heap.size]? = some (mgobj (clm t f)) → W.cell? ⟨w.heap.size, 0, none⟩ = some (.int .i64 120) ∧ W.cell? ⟨w.heap.size, 1, none⟩ = some (.int .i64 t) ∧ W.rangeAt w.heap.size 0 (clm t f).cs from fun W h => ⟨by rw [Lib.cell_of_heap h]; rfl, by rw [Lib.cell_of_heap h]; rfl, rng_of h⟩)
 have HU := lh (Tryz.underlying48)
 have HSZ := lh (mg_size (clm t f))
 have HSL : RowKit.Hid ((Tryz.prog.info? 48).map (·.size) = some (clm t f).cs.length) := lh (by kernel_rfl)
 have HP : RowKit.Hid (clbytes t f = Oct.le 4 11 ++ (Oct.le 1 120 ++ Oct.le 2 t.toNat ++ Oct.le 4 f.toNat)) := lh rfl
 have hpl : (Oct.le 1 120 ++ Oct.le 2 t.toNat ++ Oct.le 4 f.toNat).length = 7 := by rw [List.length_append, List.length_append, Oct.le_length, Oct.le_length, Oct.le_length]
 have hsl : (Oct.le 4 11).length = 4 := Oct.le_length _ _
 unfold mgobj at *
 clear ht0 ht1 hf0 hf1
 generalize (clm t f).cs = cs at *
 generalize clbytes t f = cb at *
 generalize Oct.le 1 120 ++ Oct.le 2 t.toNat ++ Oct.le 4 f.toNat = P3 at *
 generalize Oct.le 1 120 ++ Oct.le 2 t.toNat = P2 at *
 generalize Oct.le 1 120 = P1 at *
 generalize Oct.le 4 11 = PS at *
 go_enter Tryz.func71, Tryz.ntmps71
 go_upto_region 1 with fail
 generalize World.alloc _ _ = w1 at *
 go_wp2_with (refine wpList_load_row rfl 48 _ rfl w.heap.size rfl 48 cs.toArray (0, 0) _ H1.out HU.out rfl HSZ.out ?_)
 (with_reducible refine (HCK.out _).mono ?_); rintro e w2 ⟨rfl, b2⟩
 have H2 := lh ((b2.block _ (row_ltP H1.out)).trans H1.out)
 have HB2 := lh (bnext HB.out b2)
 clear b2 H1 HB HCK
 obtain ⟨c0, c1, _⟩ := HC.out _ H2.out
 go_upto_region 5 with fail
 have HW3 := lh (show WrRow (w2.alloc (.cells #[.string (T []), .int .i64 0] 182)) w2.heap.size [] from heap_alloc_new w2 _)
 have HB3 := lh (bnext HB2.out (alloc_below w2 (.cells #[.string (T []), .int .i64 0] 182)))
 have H3 := lh ((Lib.alloc_old w2 (.cells #[.string (T []), .int .i64 0] 182) _ (row_ltP H2.out)).trans H2.out)
 have hg : w.heap.size < w2.heap.size := row_ltP H2.out
 clear H2 HB2 c0 c1
 generalize World.alloc _ _ = w3 at *
 generalize w2.heap.size = g at *
 obtain ⟨c0, c1, _⟩ := HC.out _ H3.out
 go_wp2_with fail
 have hw3 := HW3.out
 (with_reducible refine (HN1.out _ _ hw3).mono ?_); rintro e w4 ⟨rfl, hw4, g4⟩
 have HW4 := lh hw4
 have H4 := lh ((g4.block _ (row_ltP H3.out) (fun e => by cases e; omega)).trans H3.out)
 have HB4 := lh (show Below w.heap.size w w4 from HB3.out.trans ((below_of_grown g4 (row_ltP hw3)).mono (by omega)))
 clear hw3 hw4 g4 HW3 H3 HB3 c0 c1 HN1
 obtain ⟨c0, c1, _⟩ := HC.out _ H4.out
 go_wp2_with fail
 have hw4 := HW4.out
 (with_reducible refine (HN2.out _ _ hw4).mono ?_); rintro e w5 ⟨rfl, hw5, g5⟩
 have HW5 := lh hw5
 have H5 := lh ((g5.block _ (row_ltP H4.out) (fun e => by cases e; omega)).trans H4.out)
 have HB5 := lh (show Below w.heap.size w w5 from HB4.out.trans ((below_of_grown g5 (row_ltP hw4)).mono (by omega)))
 clear hw4 hw5 g5 HW4 H4 HB4 c0 c1 HN2
 obtain ⟨c0, c1, _⟩ := HC.out _ H5.out
 go_wp2_with fail
 (with_reducible refine (HLY.out _).mono ?_); rintro e w6 ⟨rfl, rfl⟩
 go_wp2_with fail
 refine wp_loop_rounds 2 ?_
 rw [rounds_succ]
 go_upto_region 11 with fail
 have k102 : ∀ h, ((T [102])[0]'h).toNat = 102 := fun _ => rfl
 have k1 : (T [102]).size = 1 := rfl
 have H6 := lh (((below_drew1 w6).block _ (row_ltP H5.out)).trans H5.out)
 have HB6 := lh (bnext HB5.out (below_drew1 w6))
 have HW6 := lh (HW5.out.next (below_drew1 w6))
 have hr6 := (HC.out _ H6.out).2.2
 clear H5 HB5 HW5 c0 c1
 refine wp_region_held_drew (S := (fun W' => W'.rangeAt w.heap.size 0 cs)) (by kernel_rfl) hr6 (fun hHeld => ?_)
 refine tk 0 33 ?_
 refine tkY (v := .agg cs.toArray) 1 34 rfl (yieldsIf_load_mid (by rfl) 48 (.tmp 1) rfl w.heap.size 0 (by rfl) cs _ (fun _ h => h) HU.out rfl HSL.out) ?_
 refine tk 2 35 ?_
 refine tk 3 36 ?_
 refine tk 4 37 ?_
 refine rdy 5 (fun K hK => ?_)
 go_simp
 have hw6 := HW6.out
 go_wp2_with (go_at_call 127; (with_reducible refine (HFI.out _ _ hw6).mono ?_); rintro e w7 ⟨rfl, hw7, g7⟩)
 have HW7 := lh hw7
 have H7 := lh ((g7.block _ (row_ltP H6.out) (fun e => by cases e; omega)).trans H6.out)
 have HB7 := lh (show Below w.heap.size w w7 from HB6.out.trans ((below_of_grown g7 (row_ltP hw6)).mono (by omega)))
 clear hw6 hw7 g7 HW6 HB6
 refine hK.out _ _ (HC.out _ H7.out).2.2 (fun hHeld => ?_)
 clear hK K
 try simp only [Act.put, px1, px2, px3]
 refine wpAnyH_done (by kernel_rfl) ?_ _
 clear hHeld
 go_wp2_with fail
 rw [rounds_succ]
 have hP3 : (T P3).size = 7 := by rw [T_size, hpl]
 have hPS : (T PS).size = 4 := by rw [T_size, hsl]
 obtain ⟨⟨x0, x1⟩, y0, y1⟩ := HW7.out.reads
 go_wp2_with fail
 (with_reducible refine (HPS.out _).mono ?_); rintro e w8 ⟨rfl, b8⟩
 have HW8 := lh (HW7.out.next b8)
 have HB8 := lh (bnext HB7.out b8)
 clear b8 x0 x1 y0 y1
 obtain ⟨⟨x0, x1⟩, y0, y1⟩ := HW8.out.reads
 go_wp2_with fail
 go_ret2
 refine ⟨?_, HB8.out⟩
 rw [HP.out, ← T_append]
 rfl
theorem idx_nil (fn : Value) (hfn : ∃ a b c, fn = .func a b c) (w : World) : Calls Tryz.prog 123 #[.slice none 0 0, fn] w fun e w' => e = .returned (.int .i64 (-1)) ∧ w' = w := by
 obtain ⟨a, b, c, rfl⟩ := hfn
 go_enter Tryz.func123, Tryz.ntmps123
 go_wp2_with fail
 refine wp_loop_rounds 1 ?_
 rw [rounds_succ]
 go_wp2_with fail
 go_ret
 exact ⟨rfl, rfl⟩
theorem cont_nil (fn : Value) (hfn : ∃ a b c, fn = .func a b c) (w : World) : Calls Tryz.prog 65 #[.slice none 0 0, fn] w fun e w' => e = .returned (.bool false) ∧ w' = w := by
 have HI := lh (fun (W : World) => idx_nil fn hfn W)
 obtain ⟨a, b, c, rfl⟩ := hfn
 go_enter Tryz.func65, Tryz.ntmps65
 go_wp2_with fail
 (with_reducible refine (HI.out _).mono ?_); rintro e w1 ⟨rfl, rfl⟩
 go_wp2_with fail
 go_ret
 exact ⟨rfl, rfl⟩
theorem hasv_nil (w : World) : Calls Tryz.prog 26 #[.slice none 0 0] w fun e w' => e = .returned (.bool false) ∧ w' = w := by
 have HI := lh (fun (W : World) => cont_nil (.func (.func 66) #[] #[]) ⟨_, _, _, rfl⟩ W)
 go_enter Tryz.func26, Tryz.ntmps26
 go_wp2_with fail
 (with_reducible refine (HI.out _).mono ?_); rintro e w1 ⟨rfl, rfl⟩
 go_wp2_with fail
 go_ret
 exact ⟨rfl, rfl⟩
theorem index_nil (t : Int) (w : World) : Calls Tryz.prog 69 #[.slice none 0 0, .int .i64 t] w fun e w' => e = .returned (.int .i64 (-1)) ∧ Below w.heap.size w w' := by
 have hmf : ∀ (fn : Fn) (first cap : Array Value) (w : World), (Instr.makeFunc fn first cap).run Tryz.prog w = .ok (.func fn first cap) w := fun _ _ _ _ => rfl
 have HB := lh (fun o => alloc_below w o)
 have HI := lh (fun (fn : Fn) (a b : Array Value) (W : World) => idx_nil (.func fn a b) ⟨_, _, _, rfl⟩ W)
 go_enter Tryz.func69, Tryz.ntmps69
 go_wp2_with fail
 (with_reducible refine (HI.out _ _ _ _).mono ?_); rintro e w1 ⟨rfl, rfl⟩
 go_wp2_with fail
 go_ret
 exact ⟨rfl, HB.out _⟩
theorem flusher_nil (t : Int) (w : World) : Calls Tryz.prog 70 #[.slice none 0 0, .int .i64 t] w fun e w' => e = .returned (.int .i64 65535) ∧ Below w.heap.size w w' := by
 have hmf : ∀ (fn : Fn) (first cap : Array Value) (w : World), (Instr.makeFunc fn first cap).run Tryz.prog w = .ok (.func fn first cap) w := fun _ _ _ _ => rfl
 have HB := lh (fun o => alloc_below w o)
 have HI := lh (fun (fn : Fn) (a b : Array Value) (W : World) => idx_nil (.func fn a b) ⟨_, _, _, rfl⟩ W)
 go_enter Tryz.func70, Tryz.ntmps70
 go_wp2_with fail
 (with_reducible refine (HI.out _ _ _ _).mono ?_); rintro e w1 ⟨rfl, rfl⟩
 go_wp2_with fail
 go_ret
 exact ⟨rfl, HB.out _⟩
theorem free_nil (w : World) : Calls Tryz.prog 28 #[.slice none 0 0] w fun e w' => e = .returned (.int .i64 1) ∧ Below w.heap.size w w' := by
 have HI := lh (fun (W : World) => index_nil 1 W)
 have HF := lh (fun (W : World) => flusher_nil 1 W)
 go_enter Tryz.func28, Tryz.ntmps28
 go_wp2_with fail
 refine wp_loop_rounds 1 ?_
 rw [rounds_succ]
 go_wp2_with fail
 (with_reducible refine (HI.out _).mono ?_); rintro e w1 ⟨rfl, b1⟩
 have HB1 := lh b1
 clear b1
 go_wp2_with fail
 (with_reducible refine (HF.out _).mono ?_); rintro e w2 ⟨rfl, b2⟩
 have HB2 := lh (bnext HB1.out b2)
 clear b2
 go_wp2_with fail
 go_ret
 exact ⟨rfl, HB2.out⟩
theorem request_clunk (w : World) : Calls Tryz.prog 25 #[.int .i64 120] w fun e w' => e = .returned (.bool true) ∧ Below w.heap.size w w' := by
 have HN := lh name_clunk
 have k1 : (T [84, 67, 108, 117, 110, 107]).size = 6 := rfl
 go_enter Tryz.func25, Tryz.ntmps25
 go_wp2_with fail
 (with_reducible refine (HN.out _).mono ?_); rintro e w1 ⟨rfl, b1⟩
 have HB1 := lh b1
 clear b1
 go_wp2_with fail
 go_ret
 exact ⟨rfl, HB1.out⟩
theorem cloneq_nil (w : World) : Calls Tryz.prog 68 #[.slice none 0 0] w fun e w' => e = .returned (.slice none 0 0) ∧ w' = w := by
 have hnil := fun (w : World) (a : Option Addr) (n c n' c' : Nat) => Lib.run_eql_slice_nil (P := Tryz.prog) w 42 44 a n c n' c' Tryz.underlying42
 go_enter Tryz.func68, Tryz.ntmps68
 go_wp2_with fail
 go_ret
 exact ⟨rfl, rfl⟩
theorem clone_clunk (t f : Int) (w : World) : Calls Tryz.prog 27 #[.agg (clm t f).cs.toArray] w fun e w' => e = .returned (.agg (clm t f).cs.toArray) ∧ Below w.heap.size w w' := by
 have h1 := heap_alloc_new w (mgobj (clm t f))
 have h2 := heap_alloc_new (w.alloc (mgobj (clm t f))) (mgobj mg0)
 rw [show (w.alloc (mgobj (clm t f))).heap.size = w.heap.size + 1 from by simp] at h2
 have HB := lh (bnext (alloc_below w (mgobj (clm t f))) (alloc_below _ (mgobj mg0)))
 have H1 := lh ((Lib.alloc_old _ (mgobj mg0) _ (by simp)).trans h1)
 have H2 := lh h2
 clear h1 h2
 have HC1 := lh (fun (W : World) => slices_Clone_nil_f67 0 0 W)
 have HC2 := lh (fun (W : World) => cloneq_nil W)
 have HK := lh (show ∀ W : World, W.heap[w.heap.size]? = some (mgobj (clm t f)) → (W.cell? ⟨w.heap.size, 10, none⟩ = some (.slice none 0 0) ∧ W.frozen? ⟨w.heap.size, 10, none⟩ = false ∧ (W.setCell ⟨w.heap.size, 10, none⟩ (.slice none 0 0)).heap[w.heap.size]? = some (mgobj (clm t f))) ∧ (W.cell? ⟨w.heap.size, 11, none⟩ = some (.slice none 0 0) ∧ W.frozen? ⟨w.heap.size, 11, none⟩ = false ∧ (W.setCell ⟨w.heap.size, 11, none⟩ (.slice none 0 0)).heap[w.heap.size]? = some (mgobj (clm t f))) from fun W h => ⟨⟨by rw [Lib.cell_of_heap h]; rfl, Lib.frozen_of_heap h _, mg_set h 10 _ rfl⟩, ⟨by rw [Lib.cell_of_heap h]; rfl, Lib.frozen_of_heap h _, mg_set h 11 _ rfl⟩⟩)
 have HU := lh (Tryz.underlying48)
 have HSZ := lh (mg_size (clm t f))
 have HSY : RowKit.Hid (mg0.cs.toArray.size = (clm t f).cs.toArray.size) := lh rfl
 have HAL := lh (mg_all (clm t f) (clm_ok t f))
 unfold mgobj at *
 generalize (clm t f).cs.toArray = A1 at *
 go_enter Tryz.func27, Tryz.ntmps27
 go_upto_region 1 with fail
 generalize hw1 : World.alloc _ _ = w1
 have HB1 := lh (show Below w.heap.size w w1 from by rw [← hw1]; exact HB.out)
 have K1 := lh (show w1.heap[w.heap.size]? = some (.cells A1 48) from by rw [← hw1]; exact H1.out)
 have K2 := lh (show w1.heap[w.heap.size + 1]? = some (.cells mg0.cs.toArray 48) from by rw [← hw1]; exact H2.out)
 clear H1 H2 HB hw1
 generalize mg0.cs.toArray = A3 at *
 obtain ⟨⟨c0, f0, k0⟩, _⟩ := HK.out _ K1.out
 have L1 := lh k0
 have L2 := lh ((Below.heap_setCell w1 ⟨w.heap.size, 10, none⟩ (.slice none 0 0) (w.heap.size + 1) (show w.heap.size + 1 ≠ w.heap.size by omega)).trans K2.out)
 have HB2 := lh (HB1.out.setCell (p := ⟨w.heap.size, 10, none⟩) (Nat.le_refl _) (.slice none 0 0))
 clear k0 K1 K2 HB1
 go_wp2_with fail
 (with_reducible refine (HC1.out _).mono ?_); rintro e wx ⟨rfl, rfl⟩
 go_upto_region 2 with fail
 generalize World.setCell wx ⟨w.heap.size, 10, none⟩ (.slice none 0 0) = w2 at *
 clear c0 f0
 obtain ⟨_, c1, f1, k1⟩ := HK.out _ L1.out
 have M1 := lh k1
 have M2 := lh ((Below.heap_setCell w2 ⟨w.heap.size, 11, none⟩ (.slice none 0 0) (w.heap.size + 1) (show w.heap.size + 1 ≠ w.heap.size by omega)).trans L2.out)
 have HB3 := lh (HB2.out.setCell (p := ⟨w.heap.size, 11, none⟩) (Nat.le_refl _) (.slice none 0 0))
 clear k1 L1 L2 HB2
 go_wp2_with fail
 (with_reducible refine (HC2.out _).mono ?_); rintro e wy ⟨rfl, rfl⟩
 go_upto_region 3 with fail
 generalize World.setCell wy ⟨w.heap.size, 11, none⟩ (.slice none 0 0) = w3 at *
 clear c1 f1 HK
 go_wp2_with (first | refine wpList_load_row rfl 48 _ rfl w.heap.size rfl 48 A1 (0, 0) _ M1.out HU.out rfl HSZ.out ?_ | refine wpList_store_row rfl 48 _ _ rfl (w.heap.size + 1) A1 rfl rfl 48 A3 M2.out HSZ.out HSY.out HAL.out ?_)
 refine bodyPost_ret (v := .agg A1) (results_cell_row Tryz.results27 _ _ (w.heap.size + 1) 48 A1 (0, 0) _ rfl (heap_setRow_same M2.out) HU.out rfl HSZ.out) rfl ⟨rfl, below_setRow HB3.out (by omega) _⟩
/-- A client that is up, its calls the given slice. -/
def clv (cv : Value) : Value := .agg #[.bool true, .int .i64 0, .string (T []), .slice none 0 0, cv, .string (T [])]
abbrev clobj (cv : Value) : Obj := .cells #[.bool true, .int .i64 0, .string (T []), .slice none 0 0, cv, .string (T [])] 41
theorem new_any (w : World) : Calls Tryz.prog 14 #[] w fun e w' => e = .returned (clv (.slice none 0 0)) ∧ Below w.heap.size w w' := by
 have HB := lh (fun o => alloc_below w o)
 unfold clv
 go_enter Tryz.func14, Tryz.ntmps14
 go_wp2_with fail
 exact bodyPost_ret (v := .agg #[.bool true, .int .i64 0, .string (T []), .slice none 0 0, .slice none 0 0, .string (T [])]) (by simp [results, Tryz.results14, go_sem]) rfl ⟨rfl, HB.out _⟩
theorem own_new (w : World) : Calls Tryz.prog 24 #[clv (.slice none 0 0)] w fun e w' => ∃ b, e = .returned (clv (.slice (some ⟨b, 0, none⟩) 0 0)) ∧ w'.ownsRow w.heap.size 82 40 (.slice (some ⟨b, 0, none⟩) 0 0) 0 [] ∧ Below w.heap.size w w' := by
 obtain ⟨i0, hi, hz0, hz1, hz2⟩ := info_parts (P := Tryz.prog) (e := 82) (z := .agg (mg0.cs ++ [Value.int .i64 0]).toArray) (size := 40) (bytes := 432) (by kernel_rfl)
 have HC := lh (fun (W : World) => slices_Clone_nil_f64 0 0 W)
 have HB := lh (fun o o2 => bnext (alloc_below w o) (alloc_below _ o2))
 have H1 := lh ((Lib.alloc_old (w.alloc (clobj (.slice none 0 0))) (.cells #[.bool false, .int .i64 0, .string (T []), .slice none 0 0, .slice none 0 0, .string (T [])] 41) _ (by simp)).trans (heap_alloc_new w (clobj (.slice none 0 0))))
 have h2 := heap_alloc_new (w.alloc (clobj (.slice none 0 0))) (.cells #[.bool false, .int .i64 0, .string (T []), .slice none 0 0, .slice none 0 0, .string (T [])] 41)
 rw [show (w.alloc (clobj (.slice none 0 0))).heap.size = w.heap.size + 1 from by simp] at h2
 have H2 := lh h2
 clear h2
 unfold clv
 unfold clobj at *
 go_enter Tryz.func24, Tryz.ntmps24
 go_upto_region 1 with fail
 generalize hw1 : World.alloc _ _ = w1 at *
 have HB1 := lh (show Below w.heap.size w w1 from by rw [← hw1]; exact HB.out _ _)
 clear hw1 HB
 obtain ⟨c0, c1, c2, c3, c4, c5⟩ := six_cells H1.out
 have hsz1 := HB1.out.size
 go_wp2_with (at_make; refine wpList_make_own _ rfl _ _ 39 rfl w.heap.size 82 i0 (.agg (mg0.cs ++ [Value.int .i64 0]).toArray) 40 Tryz.underlying39 hi hz0 hz1 _ _ _ 0 rfl rfl rfl ?b1 ?b2 ?b3 ?_)
 case b1 => first | (rw [hz2]; omega) | omega
 case b2 => unfold maxLen; omega
 try (case b3 => omega)
 intro w2 hown2 hg2
 have b2 := below_of_none hg2
 have L1 := lh ((b2.block _ (row_ltP H1.out)).trans H1.out)
 have L2 := lh ((b2.block _ (row_ltP H2.out)).trans H2.out)
 have HB2 := lh (bnext HB1.out b2)
 generalize w1.heap.size = b at *
 have HO := lh hown2
 clear hown2 hg2 b2 H1 H2 HB1 c0 c1 c2 c3 c4 c5
 obtain ⟨c0, c1, c2, c3, c4, c5⟩ := six_cells L1.out
 obtain ⟨f0, f1, f2, f3, f4, f5⟩ := six_frozen L1.out
 go_wp2_with fail
 refine wp_loop_rounds 1 ?_
 rw [rounds_succ]
 go_upto_region 8 with fail
 have M1 := lh (heap_setCell_same w2 w.heap.size 4 _ _ (.slice (some ⟨b, 0, none⟩) 0 0) L1.out)
 have hg3 := grown_setG (below_grownBy (Below.refl _ w2) (some w.heap.size)) 4 (.slice (some ⟨b, 0, none⟩) 0 0)
 have M2 := lh ((hg3.block _ (row_ltP L2.out) (fun e => by have := Option.some.inj e; omega)).trans L2.out)
 have HO3 := lh (HO.out.kept hg3 (Or.inr (own_neP HO.out L1.out (by decide))))
 have HB3 := lh (HB2.out.setCell (p := ⟨w.heap.size, 4, none⟩) (Nat.le_refl _) (.slice (some ⟨b, 0, none⟩) 0 0))
 clear hg3 L2 HO HB2
 generalize World.setCell w2 ⟨w.heap.size, 4, none⟩ (.slice (some ⟨b, 0, none⟩) 0 0) = w3 at *
 clear c0 c1 c2 c3 c4 c5 f0 f1 f2 f3 f4 f5 L1
 have M1 := lh (show w3.heap[w.heap.size]? = some (.cells #[.bool true, .int .i64 0, .string (T []), .slice none 0 0, .slice (some ⟨b, 0, none⟩) 0 0, .string (T [])] 41 (0, 0)) from M1.out)
 obtain ⟨c0, c1, c2, c3, c4, c5⟩ := six_cells M1.out
 obtain ⟨f0, f1, f2, f3, f4, f5⟩ := six_frozen M1.out
 go_wp2_with fail
 (with_reducible refine (HC.out _).mono ?_); rintro e wy ⟨rfl, rfl⟩
 go_upto_region 9 with fail
 have N1 := lh (heap_setCell_same wy w.heap.size 3 _ _ (.slice none 0 0) M1.out)
 have hg4 := grown_setG (below_grownBy (Below.refl _ wy) (some w.heap.size)) 3 (.slice none 0 0)
 have N2 := lh ((hg4.block _ (row_ltP M2.out) (fun e => by have := Option.some.inj e; omega)).trans M2.out)
 have HO4 := lh (HO3.out.kept hg4 (Or.inr (own_neP HO3.out M1.out (by decide))))
 have HB4 := lh (HB3.out.setCell (p := ⟨w.heap.size, 3, none⟩) (Nat.le_refl _) (.slice none 0 0))
 clear hg4 M2 HO3 HB3
 generalize World.setCell wy ⟨w.heap.size, 3, none⟩ (.slice none 0 0) = w4 at *
 clear c0 c1 c2 c3 c4 c5 f0 f1 f2 f3 f4 f5 M1
 have N1 := lh (show w4.heap[w.heap.size]? = some (.cells #[.bool true, .int .i64 0, .string (T []), .slice none 0 0, .slice (some ⟨b, 0, none⟩) 0 0, .string (T [])] 41 (0, 0)) from N1.out)
 obtain ⟨c0, c1, c2, c3, c4, c5⟩ := six_cells N1.out
 obtain ⟨d0, d1, d2, d3, d4, d5⟩ := six_cells N2.out
 obtain ⟨f0, f1, f2, f3, f4, f5⟩ := six_frozen N2.out
 go_wp2_with fail
 have hq := six_stored (v0 := .bool true) (v1 := .int .i64 0) (v2 := .string (T [])) (v3 := .slice none 0 0) (v4 := .slice (some ⟨b, 0, none⟩) 0 0) (v5 := .string (T [])) N2.out
 obtain ⟨q0, q1, q2, q3, q4, q5⟩ := six_cells hq
 have hg5 := six_grown (W := w4) (w.heap.size + 1) (.bool true) (.int .i64 0) (.string (T [])) (.slice none 0 0) (.slice (some ⟨b, 0, none⟩) 0 0) (.string (T []))
 have hb5 : Below w.heap.size w _ := HB4.out.trans ⟨hg5.os, hg5.tape, hg5.output, hg5.size, fun i hi => hg5.block i (by have := HB4.out.size; omega) (fun e => by have := Option.some.inj e; omega)⟩
 exact bodyPost_ret (v := .agg #[.bool true, .int .i64 0, .string (T []), .slice none 0 0, .slice (some ⟨b, 0, none⟩) 0 0, .string (T [])]) (by simp [results, Tryz.results24, go_sem, q0, q1, q2, q3, q4, q5]) rfl ⟨b, rfl, HO4.out.kept hg5 (Or.inr (own_neP HO4.out N2.out (by decide))), hb5⟩
theorem encoded_clunk (t f : Int) (ht0 : 0 ≤ t) (ht1 : t ≤ 65534) (hf0 : 0 ≤ f) (hf1 : f ≤ 4294967294) (w : World) : Calls Tryz.prog 29 #[clv (.slice none 0 0), .agg (clm t f).cs.toArray] w fun e w' => e = .returned (.tuple #[.string (T (clbytes t f)), .int .i64 0]) ∧ Below w.heap.size w w' := by
 have h1 := (Lib.alloc_old (w.alloc (clobj (.slice none 0 0))) (mgobj (clm t f)) _ (by simp)).trans (heap_alloc_new w (clobj (.slice none 0 0)))
 have h2 := heap_alloc_new (w.alloc (clobj (.slice none 0 0))) (mgobj (clm t f))
 rw [show (w.alloc (clobj (.slice none 0 0))).heap.size = w.heap.size + 1 from by simp] at h2
 have H1 := lh h1
 have H2 := lh h2
 have HB := lh (bnext (alloc_below w (clobj (.slice none 0 0))) (alloc_below _ (mgobj (clm t f))))
 have HP := lh (fun W => put_clunk t f ht0 ht1 hf0 hf1 W)
 have HU := lh (Tryz.underlying48)
 have HSZ := lh (mg_size (clm t f))
 clear h1 h2 ht0 ht1 hf0 hf1
 unfold clv
 unfold clobj mgobj at *
 generalize (clm t f).cs.toArray = A1 at *
 generalize clbytes t f = cb at *
 go_enter Tryz.func29, Tryz.ntmps29
 go_upto_region 1 with fail
 generalize World.alloc _ _ = w1 at *
 go_wp2_with (refine wpList_load_row rfl 48 _ rfl (w.heap.size + 1) rfl 48 A1 (0, 0) _ H2.out HU.out rfl HSZ.out ?_)
 (with_reducible refine (HP.out _).mono ?_); rintro e w2 ⟨rfl, b2⟩
 have L1 := lh ((b2.block _ (row_ltP H1.out)).trans H1.out)
 have HB2 := lh (bnext HB.out b2)
 clear b2
 obtain ⟨c0, c1, c2, c3, c4, c5⟩ := six_cells L1.out
 go_wp2_with fail
 go_ret2
 exact ⟨rfl, HB2.out⟩
end Go.Proofs.YtfibaopngpfmjaaGreatDoor
