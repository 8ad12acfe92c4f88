/- What hash.mix returns: Sha.mix. Conditions: eight words, a block of 64 bytes, the 64 constants in the variable. -/
import Derived.Test.YtjjdaelddicokaaGreatDoorShaSched
import Derived.BigQuiet
import Derived.Deep.DeepCutAuto
set_option linter.unusedVariables false
namespace Go.Proofs.YtjjdaelddicokaaGreatDoor
open Go.RowKit

def st (s : Sha.S8) : Array Value := #[.int .u32 (s.a : Int), .int .u32 (s.b : Int), .int .u32 (s.c : Int), .int .u32 (s.d : Int), .int .u32 (s.e : Int), .int .u32 (s.f : Int), .int .u32 (s.g : Int), .int .u32 (s.h : Int)]
def z8 : Array Value := #[.int .u32 0, .int .u32 0, .int .u32 0, .int .u32 0, .int .u32 0, .int .u32 0, .int .u32 0, .int .u32 0]
/-- The constants lie in the program's variable. -/
def KIn (w : World) : Prop := 0 < w.heap.size ∧ ∀ i, i < 64 → w.cell? ⟨0, i, none⟩ = some (.int .u32 ((Sha.K.getD i 0 : Nat) : Int))
theorem KIn.below {w w' : World} (h : KIn w) (hb : Below w.heap.size w w') : KIn w' :=
  ⟨Nat.lt_of_lt_of_le h.1 hb.size, fun i hi => by rw [hb.cell (p := ⟨0, i, none⟩) h.1]; exact h.2 i hi⟩

theorem nat_xor_ones (x n : Nat) (h : x < 2 ^ n) : (2 ^ n - 1) ^^^ x = 2 ^ n - 1 - x := by
  apply Nat.eq_of_testBit_eq
  intro i
  have e : 2 ^ n - 1 - x = 2 ^ n - (x + 1) := by omega
  rw [Nat.testBit_xor, Nat.testBit_two_pow_sub_one, e, Nat.testBit_two_pow_sub_succ h]
  by_cases hi : i < n
  · simp [hi]
  · have : x.testBit i = false := Nat.testBit_lt_two_pow (Nat.lt_of_lt_of_le h (Nat.pow_le_pow_right (by omega) (by omega)))
    simp [hi, this]
theorem bg_bits (x a b c : Nat) (hx : x < 4294967296) : bits BinOp.xor IntKind.u32 (bits BinOp.xor IntKind.u32 ((Sha.ror x a : Nat) : Int) ((Sha.ror x b : Nat) : Int)) ((Sha.ror x c : Nat) : Int) = (((Sha.ror x a ^^^ Sha.ror x b) ^^^ Sha.ror x c : Nat) : Int) := by
  rw [u32_xor_nat _ _ (Sha.ror_lt _ hx) (Sha.ror_lt _ hx), u32_xor_nat _ _ (Sha.xor_lt (Sha.ror_lt _ hx) (Sha.ror_lt _ hx)) (Sha.ror_lt _ hx)]
theorem mj_bits (a b c : Nat) (ha : a < 4294967296) (hb : b < 4294967296) (hc : c < 4294967296) :
    bits BinOp.xor IntKind.u32 (bits BinOp.xor IntKind.u32 (bits BinOp.and IntKind.u32 (a : Int) (b : Int)) (bits BinOp.and IntKind.u32 (a : Int) (c : Int))) (bits BinOp.and IntKind.u32 (b : Int) (c : Int)) = ((Sha.mj a b c : Nat) : Int) := by
  rw [u32_and_nat _ _ ha hb, u32_and_nat _ _ ha hc, u32_and_nat _ _ hb hc, u32_xor_nat _ _ (Sha.and_lt ha) (Sha.and_lt ha), u32_xor_nat _ _ (Sha.xor_lt (Sha.and_lt ha) (Sha.and_lt ha)) (Sha.and_lt hb)]
  rfl

theorem t1_val (v : Sha.S8) (kk ww : Nat) (le : v.e < 4294967296) (lf : v.f < 4294967296) (lg : v.g < 4294967296) :
    (((v.h : Int) + bits BinOp.xor IntKind.u32 (bits BinOp.xor IntKind.u32 ((Sha.ror v.e 6 : Nat) : Int) ((Sha.ror v.e 11 : Nat) : Int)) ((Sha.ror v.e 25 : Nat) : Int) +
      bits BinOp.xor IntKind.u32 (bits BinOp.and IntKind.u32 (v.e : Int) (v.f : Int)) (bits BinOp.and IntKind.u32 (bits BinOp.xor IntKind.u32 4294967295 (v.e : Int)) (v.g : Int)) + (kk : Int)) % 4294967296 + (ww : Int)) % 4294967296 = ((Sha.t1 v kk ww : Nat) : Int) := by
  have em : (4294967295 : Int) = ((4294967295 : Nat) : Int) := rfl
  have en : 4294967295 ^^^ v.e = 4294967295 - v.e := by
    rw [show (4294967295 : Nat) = 2 ^ 32 - 1 from rfl]
    exact nat_xor_ones v.e 32 le
  rw [bg_bits v.e 6 11 25 le, em, u32_xor_nat 4294967295 v.e (by omega) le, en, u32_and_nat _ _ le lf, u32_and_nat _ _ (by omega) lg, u32_xor_nat _ _ (Sha.and_lt le) (Sha.and_lt (by omega))]
  show _ = ((((((v.h + Sha.bg1 v.e) % 4294967296 + Sha.ch v.e v.f v.g) % 4294967296 + kk) % 4294967296 + ww) % 4294967296 : Nat) : Int)
  have e1 : Sha.ror v.e 6 ^^^ Sha.ror v.e 11 ^^^ Sha.ror v.e 25 = Sha.bg1 v.e := rfl
  have e2 : (v.e &&& v.f) ^^^ ((4294967295 - v.e) &&& v.g) = Sha.ch v.e v.f v.g := rfl
  rw [e1, e2]
  omega
theorem t2_val (v : Sha.S8) (la : v.a < 4294967296) (lb : v.b < 4294967296) (lc : v.c < 4294967296) :
    (bits BinOp.xor IntKind.u32 (bits BinOp.xor IntKind.u32 ((Sha.ror v.a 2 : Nat) : Int) ((Sha.ror v.a 13 : Nat) : Int)) ((Sha.ror v.a 22 : Nat) : Int) +
      bits BinOp.xor IntKind.u32 (bits BinOp.xor IntKind.u32 (bits BinOp.and IntKind.u32 (v.a : Int) (v.b : Int)) (bits BinOp.and IntKind.u32 (v.a : Int) (v.c : Int))) (bits BinOp.and IntKind.u32 (v.b : Int) (v.c : Int))) % 4294967296 = ((Sha.t2 v : Nat) : Int) := by
  rw [bg_bits v.a 2 13 22 la, mj_bits v.a v.b v.c la lb lc]
  rfl

theorem sum_mod (a t : Nat) (x : Int) (h : x % 4294967296 = (t : Int)) : ((a : Int) + x) % 4294967296 = (((a + t) % 4294967296 : Nat) : Int) := by omega
def sl (s : Sha.S8) : List Nat := [s.a, s.b, s.c, s.d, s.e, s.f, s.g, s.h]
theorem sl_lt {s : Sha.S8} (h : s.ok) (k : Nat) : (sl s).getD k 0 < 4294967296 := by
  obtain ⟨h1, h2, h3, h4, h5, h6, h7, h8⟩ := h
  apply Sha.getD_lt
  intro x hx
  simp only [sl, List.mem_cons, List.not_mem_nil, or_false] at hx
  rcases hx with rfl | rfl | rfl | rfl | rfl | rfl | rfl | rfl <;> assumption
def prl (s v : Sha.S8) (k : Nat) : List Nat := (List.range 8).map fun i => if i < k then ((sl s).getD i 0 + (sl v).getD i 0) % 4294967296 else (sl s).getD i 0
def pr (s v : Sha.S8) (k : Nat) : Array Value := (us (prl s v k)).toArray
theorem pr_zero (s v : Sha.S8) : pr s v 0 = st s := by
  simp [pr, prl, us, st, sl, List.range, List.range.loop]
theorem pr_end (s v : Sha.S8) : pr s v 8 = st (Sha.add8 s v) := by
  simp [pr, prl, us, st, sl, List.range, List.range.loop, Sha.add8]
theorem pr_get (s v : Sha.S8) (k : Nat) (h : k < 8) : (pr s v k)[k]? = some (.int .u32 (((sl s).getD k 0 : Nat) : Int)) := by
  simp [pr, prl, us, h]
theorem pr_get0 (s v : Sha.S8) (k : Nat) (h : k < 8) : (pr s v 0)[k]? = some (.int .u32 (((sl s).getD k 0 : Nat) : Int)) := by
  simp [pr, prl, us, h]
theorem pr_set (s v : Sha.S8) (k : Nat) (h : k < 8) : (pr s v k).setIfInBounds k (.int .u32 ((((sl s).getD k 0 + (sl v).getD k 0) % 4294967296 : Nat) : Int)) = pr s v (k + 1) := by
  rcases k with _ | _ | _ | _ | _ | _ | _ | _ | k
  · simp [pr, prl, us, sl, List.range, List.range.loop]
  · simp [pr, prl, us, sl, List.range, List.range.loop]
  · simp [pr, prl, us, sl, List.range, List.range.loop]
  · simp [pr, prl, us, sl, List.range, List.range.loop]
  · simp [pr, prl, us, sl, List.range, List.range.loop]
  · simp [pr, prl, us, sl, List.range, List.range.loop]
  · simp [pr, prl, us, sl, List.range, List.range.loop]
  · simp [pr, prl, us, sl, List.range, List.range.loop]
  · omega
theorem st_cells (s : Sha.S8) : (st s).all (·.oneCell') = true := by simp [st, Value.oneCell']
theorem size_alloc2 (w : World) (A B : Obj) : ((w.alloc A).alloc B).heap.size = w.heap.size + 1 + 1 := by simp
theorem after_alloc2_old {w w1 : World} {A B : Obj} (hb : Below ((w.alloc A).alloc B).heap.size ((w.alloc A).alloc B) w1) : w1.heap[w.heap.size]? = some A :=
  (hb.block _ (by rw [size_alloc2]; omega)).trans (heap_alloc2_old _ _ _)
theorem after_alloc2_new {w w1 : World} {A B : Obj} (hb : Below ((w.alloc A).alloc B).heap.size ((w.alloc A).alloc B) w1) : w1.heap[w.heap.size + 1]? = some B :=
  (hb.block _ (by rw [size_alloc2]; omega)).trans (heap_alloc2_new _ _ _)
theorem after_alloc2 {w w1 : World} {A B : Obj} (hb : Below ((w.alloc A).alloc B).heap.size ((w.alloc A).alloc B) w1) : Below w.heap.size w w1 :=
  (((Below.refl _ _).alloc (Nat.le_refl _) _).alloc (by simp) _).trans (hb.mono (by rw [size_alloc2]; omega))

set_option maxRecDepth 100000 in
set_option maxHeartbeats 4000000 in
theorem mix_any (s : Sha.S8) (b : ByteArray) (w : World) (hok : s.ok) (h : 64 ≤ b.size) (hs : b.size ≤ 9223372036854775807) (hK : KIn w) :
    Calls Tryz.prog 88 #[.agg (st s), .string b] w fun e w' => e = .returned (.agg (st (Sha.mix s b.data.toList))) ∧ Below w.heap.size w w' := by
  have HC := Lib.hid (fun w => sched_any b w h hs)
  have HK := Lib.hid hK
  have hlen := Sha.sched_length b.data.toList 64
  have hslt := Sha.getD_lt (Sha.sched_lt b.data.toList 64)
  have HM := Lib.hid (show Sha.mix s b.data.toList = Sha.add8 s (Sha.rnds s (Sha.sched b.data.toList 64) 64) from rfl)
  generalize hws : Sha.sched b.data.toList 64 = ws at *
  go_enter Tryz.func88, Tryz.ntmps88
  go_wp2_with fail
  refine (HC.out _).mono ?_; rintro e w1 ⟨rfl, hb⟩
  have hrow : wrow ws 64 = (us ws).toArray := by unfold wrow; rw [hlen, Nat.sub_self]; simp
  have hsz := wrow_size ws 64 (by omega)
  have hcl := wrow_cells ws 64
  rw [← hrow]
  have hI : (Tryz.prog.info? 105).map (·.size) = some (wrow ws 64).size := by rw [hsz]; kernel_rfl
  have hI8 : (Tryz.prog.info? 87).map (·.size) = some (st s).size := by kernel_rfl
  have hcl8 := st_cells s
  have hs1 : w.heap.size + 1 + 1 ≤ w1.heap.size := by have h2 := hb.size; rw [size_alloc2] at h2; exact h2
  have hB := after_alloc2_old hb
  have hR4 := after_alloc2_new hb
  have hbw := after_alloc2 hb
  clear hb
  have hcw : ∀ i, i < 64 → (wrow ws 64)[i]? = some (.int .u32 ((ws.getD i 0 : Nat) : Int)) := fun i hi => wrow_get ws 64 i (by omega)
  have hZ : (w1.alloc (.cells (wrow [] 64) 105 (0, 0))).heap[w1.heap.size]? = some (.cells (wrow [] 64) 105 (0, 0)) := heap_alloc_new w1 _
  have hsz0 : (wrow [] 64).size = (wrow ws 64).size := by rw [hsz]; exact wrow_size [] 64 (by simp)
  have hW : ((w1.alloc (.cells (wrow [] 64) 105 (0, 0))).setRow w1.heap.size (wrow ws 64)).heap[w1.heap.size]? = some (.cells (wrow ws 64) 105 (0, 0)) := setRow_heap _ _ _ _ _ _ hZ
  have hW0 : ((w1.alloc (.cells (wrow [] 64) 105 (0, 0))).setRow w1.heap.size (wrow ws 64)).heap[w.heap.size]? = some (.cells (st s) 87 (0, 0)) := by
    rw [setRow_other _ _ _ _ (by omega), heap_alloc_old _ _ (by omega)]; exact hB
  have hW1 : ((w1.alloc (.cells (wrow [] 64) 105 (0, 0))).setRow w1.heap.size (wrow ws 64)).heap[w.heap.size + 1]? = some (.cells z8 87 (0, 0)) := by
    rw [setRow_other _ _ _ _ (by omega), heap_alloc_old _ _ (by omega)]; exact hR4
  have hbW : Below w.heap.size w ((w1.alloc (.cells (wrow [] 64) 105 (0, 0))).setRow w1.heap.size (wrow ws 64)) := below_setRow (hbw.alloc (by omega) _) (by omega) _
  have hsW : ((w1.alloc (.cells (wrow [] 64) 105 (0, 0))).setRow w1.heap.size (wrow ws 64)).heap.size = w1.heap.size + 1 := by simp
  clear hB hR4 hbw hrow hK
  generalize wrow ws 64 = cs at *
  go_upto_region 2 with (refine wpList_store_row rfl 105 _ _ rfl w1.heap.size cs rfl rfl 105 (wrow [] 64) hZ hI hsz0 hcl ?_)
  change Code.wp _ _ _ _ ((w1.alloc (.cells (wrow [] 64) 105 (0, 0))).setRow w1.heap.size cs)
  generalize (w1.alloc (.cells (wrow [] 64) 105 (0, 0))).setRow w1.heap.size cs = w2 at *
  clear hZ hsz0 hI hcl
  generalize w1.heap.size = g at *
  have hK2 := HK.out.below hbW
  have hZ8 : (w2.alloc (.cells z8 87 (0, 0))).heap[w2.heap.size]? = some (.cells z8 87 (0, 0)) := heap_alloc_new w2 _
  have hV : ((w2.alloc (.cells z8 87 (0, 0))).setRow w2.heap.size (st s)).heap[w2.heap.size]? = some (.cells (st s) 87 (0, 0)) := setRow_heap _ _ _ _ _ _ hZ8
  have hV0 : ((w2.alloc (.cells z8 87 (0, 0))).setRow w2.heap.size (st s)).heap[w.heap.size]? = some (.cells (st s) 87 (0, 0)) := by
    rw [setRow_other _ _ _ _ (by omega), heap_alloc_old _ _ (by omega)]; exact hW0
  have hV1 : ((w2.alloc (.cells z8 87 (0, 0))).setRow w2.heap.size (st s)).heap[w.heap.size + 1]? = some (.cells z8 87 (0, 0)) := by
    rw [setRow_other _ _ _ _ (by omega), heap_alloc_old _ _ (by omega)]; exact hW1
  have hVg : ((w2.alloc (.cells z8 87 (0, 0))).setRow w2.heap.size (st s)).heap[g]? = some (.cells cs 105 (0, 0)) := by
    rw [setRow_other _ _ _ _ (by omega), heap_alloc_old _ _ (by omega)]; exact hW
  have hbV : Below w.heap.size w ((w2.alloc (.cells z8 87 (0, 0))).setRow w2.heap.size (st s)) := below_setRow (hbW.alloc (by omega) _) (by omega) _
  have hg : g < w2.heap.size := by omega
  have hw2 : w.heap.size + 1 < w2.heap.size := by omega
  clear hW hbW hW1 hsW
  go_upto_region 3 with (first | refine wpList_load_row rfl 87 _ rfl w.heap.size rfl 87 (st s) (0, 0) _ hW0 Tryz.underlying87 rfl hI8 ?_ | refine wpList_store_row rfl 87 _ _ rfl w2.heap.size (st s) rfl rfl 87 z8 hZ8 hI8 rfl hcl8 ?_)
  change Code.wp _ _ _ _ ((w2.alloc (.cells z8 87 (0, 0))).setRow w2.heap.size (st s))
  generalize (w2.alloc (.cells z8 87 (0, 0))).setRow w2.heap.size (st s) = w3 at *
  clear hZ8 hW0
  generalize w2.heap.size = g6 at *
  have HOK := Lib.hid hok
  have HCW := Lib.hid hcw
  have HI8 := Lib.hid hI8
  clear hok hcw hI8 hcl8 hK2 hws hsz h hs
  go_wp2_with fail
  go_loopw [20] (fun i wr => ∃ j : Nat, j ≤ 64 ∧ i = .int .i64 j ∧ wr.heap[g6]? = some (.cells (st (Sha.rnds s ws j)) 87 (0, 0)) ∧
      wr.heap[w.heap.size]? = some (.cells (st s) 87 (0, 0)) ∧ wr.heap[w.heap.size + 1]? = some (.cells z8 87 (0, 0)) ∧ wr.heap[g]? = some (.cells cs 105 (0, 0)) ∧ Below w.heap.size w wr) (fun i _ => 64 - (intOf i).toNat)
  case atStart => exact ⟨0, by omega, rfl, hV, hV0, hV1, hVg, hbV⟩
  case round =>
    obtain ⟨j, hj, rfl, hR, hR0, hR1, hRg, hb⟩ := hrel
    by_cases hlt : j < 64
    · have vok := Sha.rnds_ok HOK.out ws j
      have HN := Lib.hid (show Sha.rnds s ws (j + 1) = Sha.step (Sha.rnds s ws j) (Sha.K.getD j 0) (ws.getD j 0) from rfl)
      have kj := (HK.out.below hb).2 j hlt
      have wj : wr.cell? ⟨g, j, none⟩ = some (.int .u32 ((ws.getD j 0 : Nat) : Int)) := by rw [cell_of_row wr _ j _ _ _ hRg]; exact HCW.out j hlt
      have lk := Sha.getD_lt Sha.K_lt j
      have lw := hslt j
      generalize Sha.rnds s ws j = v at *
      generalize Sha.K.getD j 0 = kk at *
      generalize ws.getD j 0 = ww at *
      obtain ⟨a, b', c, d, e, f, gg, hh⟩ := v
      obtain ⟨la, lb, lc, ld, le, lf, lg, lh⟩ := vok
      have c0 : wr.cell? ⟨g6, 0, none⟩ = some (.int .u32 (a : Int)) := by rw [cell_of_row wr _ _ _ _ _ hR]; rfl
      have c1 : wr.cell? ⟨g6, 1, none⟩ = some (.int .u32 (b' : Int)) := by rw [cell_of_row wr _ _ _ _ _ hR]; rfl
      have c2 : wr.cell? ⟨g6, 2, none⟩ = some (.int .u32 (c : Int)) := by rw [cell_of_row wr _ _ _ _ _ hR]; rfl
      have c3 : wr.cell? ⟨g6, 3, none⟩ = some (.int .u32 (d : Int)) := by rw [cell_of_row wr _ _ _ _ _ hR]; rfl
      have c4 : wr.cell? ⟨g6, 4, none⟩ = some (.int .u32 (e : Int)) := by rw [cell_of_row wr _ _ _ _ _ hR]; rfl
      have c5 : wr.cell? ⟨g6, 5, none⟩ = some (.int .u32 (f : Int)) := by rw [cell_of_row wr _ _ _ _ _ hR]; rfl
      have c6 : wr.cell? ⟨g6, 6, none⟩ = some (.int .u32 (gg : Int)) := by rw [cell_of_row wr _ _ _ _ _ hR]; rfl
      have c7 : wr.cell? ⟨g6, 7, none⟩ = some (.int .u32 (hh : Int)) := by rw [cell_of_row wr _ _ _ _ _ hR]; rfl
      have HR := Lib.hid hR
      have HR0 := Lib.hid hR0
      have HR1 := Lib.hid hR1
      have HRg := Lib.hid hRg
      have HB := Lib.hid hb
      clear hR hR0 hR1 hRg hb hslt
      simp only [] at la lb lc ld le lf lg lh
      have R2 := Lib.hid (fun w => right_any a 2 w la (by decide) (by decide))
      have R13 := Lib.hid (fun w => right_any a 13 w la (by decide) (by decide))
      have R22 := Lib.hid (fun w => right_any a 22 w la (by decide) (by decide))
      go_wp2_with fail
      go_quiet (fail)
      have hR := HR.out; have hR0 := HR0.out; have hR1 := HR1.out; have hRg := HRg.out; have hb := below_drewN HB.out nq
      clear c0 c1 c2 c4 c5 c6 HR HR0 HR1 HRg HB
      replace hR : (wr.drewN nq).heap[g6]? = some (.cells (st ⟨a, b', c, d, e, f, gg, hh⟩) 87 (0, 0)) := hR
      replace hR0 : (wr.drewN nq).heap[w.heap.size]? = some (.cells (st s) 87 (0, 0)) := hR0
      replace hR1 : (wr.drewN nq).heap[w.heap.size + 1]? = some (.cells z8 87 (0, 0)) := hR1
      replace hRg : (wr.drewN nq).heap[g]? = some (.cells cs 105 (0, 0)) := hRg
      replace c3 : (wr.drewN nq).cell? ⟨g6, 3, none⟩ = some (.int .u32 (d : Int)) := c3
      replace c7 : (wr.drewN nq).cell? ⟨g6, 7, none⟩ = some (.int .u32 (hh : Int)) := c7
      replace kj : (wr.drewN nq).cell? ⟨0, j, none⟩ = some (.int .u32 (kk : Int)) := kj
      replace wj : (wr.drewN nq).cell? ⟨g, j, none⟩ = some (.int .u32 (ww : Int)) := wj
      generalize wr.drewN nq = wq at *
      have HR := Lib.hid hR
      have HR0 := Lib.hid hR0
      have HR1 := Lib.hid hR1
      have HRg := Lib.hid hRg
      have HB := Lib.hid hb
      clear hR hR0 hR1 hRg hb
      have R6 := Lib.hid (fun n => Calls.quiet_of_same ((right_any e 6 (wq.drewN n) le (by decide) (by decide)).mono fun _ _ h => ⟨h.1, h.2.symm⟩))
      have R11 := Lib.hid (fun n => Calls.quiet_of_same ((right_any e 11 (wq.drewN n) le (by decide) (by decide)).mono fun _ _ h => ⟨h.1, h.2.symm⟩))
      have R25 := Lib.hid (fun n => Calls.quiet_of_same ((right_any e 25 (wq.drewN n) le (by decide) (by decide)).mono fun _ _ h => ⟨h.1, h.2.symm⟩))
      go_wp2_with fail
      go_quiet ((go_at_call 100; (first | exact R6.out _ | exact R11.out _ | exact R25.out _)))
      have hR := HR.out; have hR0 := HR0.out; have hR1 := HR1.out; have hRg := HRg.out; have hb := below_drewN HB.out nq
      clear c7 kj wj HR HR0 HR1 HRg HB R6 R11 R25
      replace hR : (wq.drewN nq).heap[g6]? = some (.cells (st ⟨a, b', c, d, e, f, gg, hh⟩) 87 (0, 0)) := hR
      replace hR0 : (wq.drewN nq).heap[w.heap.size]? = some (.cells (st s) 87 (0, 0)) := hR0
      replace hR1 : (wq.drewN nq).heap[w.heap.size + 1]? = some (.cells z8 87 (0, 0)) := hR1
      replace hRg : (wq.drewN nq).heap[g]? = some (.cells cs 105 (0, 0)) := hRg
      replace c3 : (wq.drewN nq).cell? ⟨g6, 3, none⟩ = some (.int .u32 (d : Int)) := c3
      generalize wq.drewN nq = wz at *
      have HR := Lib.hid hR
      have HR0 := Lib.hid hR0
      have HR1 := Lib.hid hR1
      have HRg := Lib.hid hRg
      have HB := Lib.hid hb
      clear hR hR0 hR1 hRg hb
      rw [show (if IntKind.u32.signed = true then (-1 : Int) else IntKind.u32.max) = 4294967295 from rfl]
      rw [t1_val ⟨a, b', c, d, e, f, gg, hh⟩ kk ww le lf lg]
      have HT1 := Lib.hid (show Sha.step ⟨a, b', c, d, e, f, gg, hh⟩ kk ww = ⟨(Sha.t1 ⟨a, b', c, d, e, f, gg, hh⟩ kk ww + Sha.t2 ⟨a, b', c, d, e, f, gg, hh⟩) % 4294967296, a, b', c, (d + Sha.t1 ⟨a, b', c, d, e, f, gg, hh⟩ kk ww) % 4294967296, e, f, gg⟩ from rfl)
      have HT2 := Lib.hid (t2_val ⟨a, b', c, d, e, f, gg, hh⟩ la lb lc)
      simp only [] at HT2
      have lt2 : Sha.t2 ⟨a, b', c, d, e, f, gg, hh⟩ < 4294967296 := Nat.mod_lt _ (by omega)
      have lt1 : Sha.t1 ⟨a, b', c, d, e, f, gg, hh⟩ kk ww < 4294967296 := Nat.mod_lt _ (by omega)
      generalize Sha.t1 ⟨a, b', c, d, e, f, gg, hh⟩ kk ww = tt1 at *
      go_wp2_with fail
      refine (R2.out _).mono ?_; rintro e w' ⟨rfl, rfl⟩
      go_wp2_with fail
      refine (R13.out _).mono ?_; rintro e w' ⟨rfl, rfl⟩
      go_wp2_with fail
      refine (R22.out _).mono ?_; rintro e w' ⟨rfl, rfl⟩
      go_upto_region 10 with (refine wpList_store_row rfl 87 _ _ rfl g6 _ rfl rfl 87 _ HR.out (by kernel_rfl) (by simp [st]) (by simp [Value.oneCell']) ?_)
      go_wp2_with fail
      go_roundw
      case rel =>
        have HE1 := sum_mod tt1 _ _ HT2.out
        have HE2 : ((d : Int) + (tt1 : Int)) % 4294967296 = (((d + tt1) % 4294967296 : Nat) : Int) := by omega
        rw [HE1, HE2]
        refine ⟨j + 1, by omega, by go_num, ?_, ?_, ?_, ?_, ?_⟩
        · rw [HN.out, HT1.out]; exact setRow_heap _ _ _ _ _ _ HR.out
        · rw [setRow_other _ _ _ _ (by omega)]; exact HR0.out
        · rw [setRow_other _ _ _ _ (by omega)]; exact HR1.out
        · rw [setRow_other _ _ _ _ (by omega)]; exact HRg.out
        · exact below_setRow HB.out (by omega) _
      case measure => simp [intOf]; omega
    · obtain rfl : j = 64 := by omega
      clear hslt hlt hj
      have HOV := Lib.hid (Sha.rnds_ok HOK.out ws 64)
      generalize Sha.rnds s ws 64 = v at *
      rw [← pr_zero s v] at hR0
      rw [show ((64 : Nat) : Int) = 64 from rfl]
      go_wp2_with fail
      go_loopw [98] (fun i w' => ∃ k : Nat, k ≤ 8 ∧ i = .int .i64 k ∧ w'.heap[g6]? = some (.cells (st v) 87 (0, 0)) ∧
          w'.heap[w.heap.size]? = some (.cells (pr s v k) 87 (0, 0)) ∧ w'.heap[w.heap.size + 1]? = some (.cells z8 87 (0, 0)) ∧ Below w.heap.size w w') (fun i _ => 8 - (intOf i).toNat)
      case atStart => exact ⟨0, by omega, rfl, hR, hR0, hR1, hb⟩
      case round =>
        obtain ⟨k, hk, rfl, hV, hX, hZ, hB⟩ := hrel
        by_cases hlt : k < 8
        · have cx : wr.cell? ⟨w.heap.size, k, none⟩ = some (.int .u32 (((sl s).getD k 0 : Nat) : Int)) := by rw [cell_of_row wr _ k _ _ _ hX]; exact pr_get s v k hlt
          have cv : wr.cell? ⟨g6, k, none⟩ = some (.int .u32 (((sl v).getD k 0 : Nat) : Int)) := by rw [cell_of_row wr _ k _ _ _ hV, ← pr_zero v v]; exact pr_get0 v v k hlt
          have hf := frozen_of_row wr w.heap.size k _ _ hX
          have HP := Lib.hid (pr_set s v k hlt)
          have lx := sl_lt HOK.out k
          have lv := sl_lt HOV.out k
          have HV := Lib.hid hV
          have HX := Lib.hid hX
          have HZ := Lib.hid hZ
          have HB := Lib.hid hB
          clear hV hX hZ hB hR hR0 hR1 hRg hb
          generalize (sl s).getD k 0 = x at *
          generalize (sl v).getD k 0 = y at *
          have HE := Lib.hid (show ((x : Int) + (y : Int)) % 4294967296 = (((x + y) % 4294967296 : Nat) : Int) from by omega)
          go_wp2_with fail
          go_still_tail 8, (by kernel_rfl)
          change wpList _ _ _ _ _ wr.drew
          go_wp2_with fail
          go_roundw
          case rel =>
            rw [HE.out]
            refine ⟨k + 1, by omega, by go_num, ?_, ?_, ?_, ?_⟩
            · exact (heap_setCell_other wr ⟨w.heap.size, k, none⟩ g6 _ (by simp; omega)).trans HV.out
            · rw [← HP.out]; exact heap_setCell_same wr w.heap.size k _ _ _ HX.out
            · exact (heap_setCell_other wr ⟨w.heap.size, k, none⟩ (w.heap.size + 1) _ (by simp)).trans HZ.out
            · exact (HB.out.setCell (p := ⟨w.heap.size, k, none⟩) (by simp) _).drew
          case measure => simp [intOf]; omega
        · obtain rfl : k = 8 := by omega
          rw [pr_end] at hX
          have hcl8 := st_cells (Sha.add8 s v)
          have hI8' : (Tryz.prog.info? 87).map (·.size) = some (st (Sha.add8 s v)).size := by kernel_rfl
          have hR := setRow_heap wr (w.heap.size + 1) z8 (st (Sha.add8 s v)) 87 (0, 0) hZ
          have hBL : Below w.heap.size w (wr.setRow (w.heap.size + 1) (st (Sha.add8 s v))) := below_setRow hB (by omega) _
          have HX := Lib.hid hX
          have HZ := Lib.hid hZ
          have HR := Lib.hid hR
          have HB := Lib.hid hBL
          clear hX hZ hR hBL hV hB
          have hz8 : z8.size = (st (Sha.add8 s v)).size := by simp [z8, st]
          have HF := Lib.hid (show st (Sha.mix s b.data.toList) = st (Sha.add8 s v) from by rw [HM.out])
          generalize st (Sha.add8 s v) = fin at *
          go_wp2_with (first | refine wpList_load_row rfl 87 _ rfl w.heap.size rfl 87 fin (0, 0) _ HX.out Tryz.underlying87 rfl hI8' ?_ | refine wpList_store_row rfl 87 _ _ rfl (w.heap.size + 1) fin rfl rfl 87 z8 HZ.out hI8' hz8 hcl8 ?_)
          refine bodyPost_ret (results_cell_row rfl _ _ (w.heap.size + 1) _ fin _ _ rfl HR.out Tryz.underlying87 rfl hI8') rfl ?_
          exact ⟨by rw [HF.out], HB.out⟩
end Go.Proofs.YtjjdaelddicokaaGreatDoor
