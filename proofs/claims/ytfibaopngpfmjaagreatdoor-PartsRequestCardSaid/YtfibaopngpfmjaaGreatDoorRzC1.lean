/- The reference's small functions on numbers, names and kinds. Conditions: those that each theorem names. -/
import Derived.Test.YtfibaopngpfmjaaGreatDoorRzB1
import Derived.Test.YtfibaopngpfmjaaGreatDoorRzB3
set_option linter.unusedVariables false
set_option linter.unusedSimpArgs false
set_option maxRecDepth 100000
set_option maxHeartbeats 8000000
namespace Go.Proofs.YtfibaopngpfmjaaGreatDoor
open Go.RowKit Go.Proofs
/-- A number is returned, of which Q holds. -/
def RetI (Q : Int → Prop) (w : World) (e : Ending) (w' : World) : Prop := ∃ k, e = .returned (.int .i64 k) ∧ Q k ∧ Below w.heap.size w w'
theorem retI {Q : Int → Prop} {w w' : World} (k : Int) (q : Q k) (h : Below w.heap.size w w') : RetI Q w (.returned (.int .i64 k)) w' := ⟨k, rfl, q, h⟩
/-- The same, the world as it was. -/
def SameB (w : World) (e : Ending) (w' : World) : Prop := ∃ b, e = .returned (.bool b) ∧ w' = w
theorem sameB {w : World} (b : Bool) : SameB w (.returned (.bool b)) w := ⟨b, rfl, rfl⟩
def SameI (w : World) (e : Ending) (w' : World) : Prop := ∃ k, e = .returned (.int .i64 k) ∧ w' = w
theorem sameI {w : World} (k : Int) : SameI w (.returned (.int .i64 k)) w := ⟨k, rfl, rfl⟩
theorem r8num_any (n k : Int) (w : World) : Calls Tryz.prog 178 #[.int .i64 n, .int .i64 k] w (SameI w) := by
  go_enter Tryz.func178, Tryz.ntmps178
  go_wp2_with fail
  all_goals (go_ret; exact sameI _)
theorem r8len_any (s : List UInt8) (k : Int) (w : World) : Calls Tryz.prog 179 #[.string (T s), .int .i64 k] w (SameI w) := by
  go_enter Tryz.func179, Tryz.ntmps179
  go_wp2_with fail
  all_goals (go_ret; exact sameI _)
theorem r7in_any (n k : Int) (w : World) : Calls Tryz.prog 267 #[.int .i64 n, .int .i64 k] w (SameB w) := by
  go_enter Tryz.func267, Tryz.ntmps267
  go_wp2_with fail
  all_goals (go_ret; exact sameB _)
theorem r7sum_any (n k : Int) (w : World) : Calls Tryz.prog 266 #[.int .i64 n, .int .i64 k] w (SameB w) := by
  go_enter Tryz.func266, Tryz.ntmps266
  go_wp2_with fail
  all_goals (go_ret; exact sameB _)
theorem r8qid_any (a b c : Int) (w : World) : Calls Tryz.prog 182 #[.agg #[.int .i64 a, .int .i64 b, .int .i64 c]] w (RetI (fun _ => True) w) := by
  have HB := lh (alloc_below w (.cells #[.int .i64 a, .int .i64 b, .int .i64 c] 44))
  go_enter Tryz.func182, Tryz.ntmps182
  go_wp2_with fail
  all_goals (go_ret; exact retI _ trivial HB.out)
theorem rvalid_any (s : List UInt8) (w : World) (hs : s.length ≤ 1000000000000000000) : Calls Tryz.prog 221 #[.string (T s)] w (SameB w) := by
  have hsz : (T s).size = s.length := T_size s
  go_enter Tryz.func221, Tryz.ntmps221
  go_wp2_with fail
  go_loop [3] (fun i => ∃ k : Nat, k ≤ s.length ∧ i = .int .i64 (k : Int)) (fun i => s.length - (intOf i).toNat)
  case atStart => exact ⟨0, by omega, rfl⟩
  case round =>
    obtain ⟨k, hk, rfl⟩ := hrel
    by_cases hlt : k < s.length
    · have hki : (k : Int) < s.length := by omega
      go_wp2_with fail
      all_goals (first
        | (go_ret; exact sameB _)
        | (go_round
           case rel => exact ⟨k + 1, by omega, by go_num⟩
           case measure => simp [intOf]; omega))
    · obtain rfl : k = s.length := by omega
      go_wp2_with fail
      all_goals (go_ret; exact sameB _)
/-- The cells of a description. -/
def dirv (a b c d e f g h i : Int) (p q r t : List UInt8) : Array Value := #[.int .i64 a, .int .i64 b, .int .i64 c, .int .i64 d, .int .i64 e, .int .i64 f, .int .i64 g, .int .i64 h, .int .i64 i, .string (T p), .string (T q), .string (T r), .string (T t)]
theorem r7numbers_any (a b c d e f g h i : Int) (p q r t : List UInt8) (w : World) : Calls Tryz.prog 246 #[.agg (dirv a b c d e f g h i p q r t)] w (RetB (fun _ => True) w) := by
  have HB := lh (alloc_below w (.cells (dirv a b c d e f g h i p q r t) 46))
  have HI := lh (fun n k W => r7in_any n k W)
  have HS := lh (fun n k W => r7sum_any n k W)
  unfold dirv at *
  go_enter Tryz.func246, Tryz.ntmps246
  go_wp2_with fail
  repeat' (first
    | (go_ret; exact retB _ trivial HB.out)
    | ((with_reducible refine (HI.out _ _ _).mono ?_); rintro e wx ⟨b, rfl, rfl⟩; go_wp2_with fail)
    | ((with_reducible refine (HS.out _ _ _).mono ?_); rintro e wx ⟨b, rfl, rfl⟩; go_wp2_with fail))
theorem r7check_any (a b c d e f g h i : Int) (p q r t : List UInt8) (w : World) (hp : p.length ≤ 1000000000000000000) : Calls Tryz.prog 222 #[.agg (dirv a b c d e f g h i p q r t)] w (RetI (fun _ => True) w) := by
  have HB := lh (alloc_below w (.cells (dirv a b c d e f g h i p q r t) 46))
  have H1 := lh (heap_alloc_new w (.cells (dirv a b c d e f g h i p q r t) 46))
  have HC := lh (fun (W : World) (hh : W.heap[w.heap.size]? = some (.cells (dirv a b c d e f g h i p q r t) 46)) => (⟨by rw [Lib.cell_of_heap hh]; rfl, by rw [Lib.cell_of_heap hh]; rfl, by rw [Lib.cell_of_heap hh]; rfl, by rw [Lib.cell_of_heap hh]; rfl⟩ : W.cell? ⟨w.heap.size, 9, none⟩ = some (.string (T p)) ∧ W.cell? ⟨w.heap.size, 10, none⟩ = some (.string (T q)) ∧ W.cell? ⟨w.heap.size, 11, none⟩ = some (.string (T r)) ∧ W.cell? ⟨w.heap.size, 12, none⟩ = some (.string (T t))))
  have HN := lh (fun W => r7numbers_any a b c d e f g h i p q r t W)
  have HV := lh (fun W => rvalid_any p W hp)
  clear hp
  unfold dirv at *
  go_enter Tryz.func222, Tryz.ntmps222
  go_wp2_with fail
  (with_reducible refine (HN.out _).mono ?_); rintro e w2 ⟨b, rfl, _, b2⟩
  have HB2 := lh (bnext HB.out b2)
  obtain ⟨c9, c10, c11, c12⟩ := HC.out _ ((b2.block _ (row_ltP H1.out)).trans H1.out)
  clear b2
  go_wp2_with fail
  repeat' (first
    | (go_ret; exact retI _ trivial HB2.out)
    | ((with_reducible refine (HV.out _).mono ?_); rintro e wx ⟨b, rfl, rfl⟩; go_wp2_with fail))
/-- A text of at most n bytes is returned, the world as it was. -/
def SameS (n : Nat) (w : World) (e : Ending) (w' : World) : Prop := ∃ s, e = .returned (.string (T s)) ∧ s.length ≤ n ∧ w' = w
theorem sameS {n : Nat} {w : World} (s : List UInt8) (h : s.length ≤ n) : SameS n w (.returned (.string (T s))) w := ⟨s, rfl, h, rfl⟩
theorem rlate_any (k : Int) (w : World) : Calls Tryz.prog 176 #[.int .i64 k] w (SameS 20 w) := by
  go_enter Tryz.func176, Tryz.ntmps176
  go_wp2_with fail
  all_goals (go_ret; exact sameS _ (by decide))
theorem rname_any (k : Int) (w : World) : Calls Tryz.prog 113 #[.int .i64 k] w (SameS 20 w) := by
  have HL := lh (fun W => rlate_any k W)
  go_enter Tryz.func113, Tryz.ntmps113
  go_wp2_with fail
  all_goals (first
    | (go_ret; exact sameS _ (by decide))
    | ((with_reducible refine (HL.out _).mono ?_); rintro e wx ⟨s, rfl, hs, rfl⟩
       have HS := lh hs
       clear hs
       go_wp2_with fail
       go_ret
       exact sameS _ HS.out))
theorem rfields_any (k : Int) (w : World) : Calls Tryz.prog 117 #[.int .i64 k] w (SameS 20 w) := by
  go_enter Tryz.func117, Tryz.ntmps117
  go_wp2_with fail
  all_goals (go_ret; exact sameS _ (by decide))
theorem ruses_any (k c : Int) (w : World) : Calls Tryz.prog 115 #[.int .i64 k, .int .u8 c] w (SameB w) := by
  have HF := lh (fun W => rfields_any k W)
  go_enter Tryz.func115, Tryz.ntmps115
  go_wp2_with fail
  (with_reducible refine (HF.out _).mono ?_); rintro e wx ⟨s, rfl, hs, rfl⟩
  have hsz : (T s).size = s.length := T_size s
  go_wp2_with fail
  go_loop [6] (fun i => ∃ k : Nat, k ≤ s.length ∧ i = .int .i64 (k : Int)) (fun i => s.length - (intOf i).toNat)
  case atStart => exact ⟨0, by omega, rfl⟩
  case round =>
    obtain ⟨k, hk, rfl⟩ := hrel
    by_cases hlt : k < s.length
    · have hki : (k : Int) < s.length := by omega
      go_wp2_with fail
      all_goals (first
        | (go_ret; exact sameB _)
        | (go_round
           case rel => exact ⟨k + 1, by omega, by go_num⟩
           case measure => simp [intOf]; omega))
    · obtain rfl : k = s.length := by omega
      go_wp2_with fail
      all_goals (go_ret; exact sameB _)
theorem rreq_any (k : Int) (w : World) : Calls Tryz.prog 58 #[.int .i64 k] w (SameB w) := by
  have HN := lh (fun W => rname_any k W)
  go_enter Tryz.func58, Tryz.ntmps58
  go_wp2_with fail
  (with_reducible refine (HN.out _).mono ?_); rintro e wx ⟨s, rfl, hs, rfl⟩
  clear hs
  go_wp2_with fail
  all_goals (go_ret; exact sameB _)
theorem rtag_any (m : Mg) (w : World) : Calls Tryz.prog 114 #[.agg m.cs.toArray] w (RetI (fun _ => True) w) := by
  have HB := lh (alloc_below w (mgobj m))
  have H1 := lh (heap_alloc_new w (mgobj m))
  have HC := lh (fun (W : World) (h : W.heap[w.heap.size]? = some (mgobj m)) => show W.cell? ⟨w.heap.size, 0, none⟩ = some (.int .i64 m.kind) ∧ W.cell? ⟨w.heap.size, 1, none⟩ = some (.int .i64 m.tag) from ⟨by rw [Lib.cell_of_heap h]; rfl, by rw [Lib.cell_of_heap h]; rfl⟩)
  unfold mgobj at *
  generalize m.cs = cs at *
  go_enter Tryz.func114, Tryz.ntmps114
  go_upto_region 1 with fail
  generalize World.alloc _ _ = w1 at *
  obtain ⟨c0, c1⟩ := HC.out _ H1.out
  go_wp2_with fail
  all_goals (go_ret; exact retI _ trivial HB.out)
theorem rnames_any (v : Value) (l : List (List UInt8)) (w : World) (hv : Txs w v l) (hl : ∀ s ∈ l, s.length ≤ 1000000000000000000) (hll : l.length ≤ 1000000000000000000) : Calls Tryz.prog 180 #[v] w (SameI w) := by
  obtain ⟨ao, cap, rfl, hc, hnn, hcell⟩ := hv
  have HCE := lh hcell
  have HV := lh (fun k (h : k < l.length) W => rvalid_any l[k] W (hl _ (List.getElem_mem h)))
  clear hcell hnn hl
  go_enter Tryz.func180, Tryz.ntmps180
  by_cases h16 : l.length ≤ 16
  rotate_left
  · have k1 : (16 : Int) < l.length := by omega
    clear h16
    go_wp2_with fail
    go_ret
    exact sameI _
  have k1 : decide ((16 : Int) < l.length) = false := decide_eq_false (by omega)
  go_wp2_with fail
  go_loop [9] (fun i => ∃ k : Nat, k ≤ l.length ∧ i = .int .i64 (k : Int)) (fun i => l.length - (intOf i).toNat)
  case atStart => exact ⟨0, by omega, rfl⟩
  case round =>
    obtain ⟨k, hk, rfl⟩ := hrel
    by_cases hlt : k < l.length
    · obtain ⟨b, off, rfl, hbl, cc⟩ := HCE.out k hlt
      have hki : (k : Int) < l.length := by omega
      have HVK := lh (fun W => HV.out k hlt W)
      generalize l[k] = nm at *
      go_wp2_with fail
      repeat' (first
        | (go_ret; exact sameI _)
        | ((with_reducible refine (HVK.out _).mono ?_); rintro e wx ⟨b, rfl, rfl⟩; go_wp2_with fail)
        | (go_round
           case rel => exact ⟨k + 1, by omega, by go_num⟩
           case measure => simp [intOf]; omega))
    · obtain rfl : k = l.length := by omega
      go_wp2_with fail
      all_goals (go_ret; exact sameI _)
/-- A slice of qids in memory. -/
def Qds (w : World) (v : Value) (l : List (Int × Int × Int)) : Prop :=
  ∃ ao cap, v = .slice ao l.length cap ∧ l.length ≤ cap ∧ (ao = none → cap = 0) ∧ ∀ j (h : j < l.length), ∃ b off, ao = some ⟨b, off, none⟩ ∧ b < w.heap.size ∧ w.cell? ⟨b, off + j * 3, none⟩ = some (.int .i64 l[j].1) ∧ w.cell? ⟨b, off + j * 3 + 1, none⟩ = some (.int .i64 l[j].2.1) ∧ w.cell? ⟨b, off + j * 3 + 2, none⟩ = some (.int .i64 l[j].2.2)
theorem Qds.below {w w' : World} {v : Value} {l : List (Int × Int × Int)} (h : Qds w v l) (hb : Below w.heap.size w w') : Qds w' v l := by
  obtain ⟨ao, cap, hv, hc, hn, hcell⟩ := h
  refine ⟨ao, cap, hv, hc, hn, fun j h => ?_⟩
  obtain ⟨b, off, ha, hlt, c0, c1, c2⟩ := hcell j h
  exact ⟨b, off, ha, Nat.lt_of_lt_of_le hlt hb.size, cell_below hb hlt c0, cell_below hb hlt c1, cell_below hb hlt c2⟩
theorem Qds.form {w : World} {v : Value} {l : List (Int × Int × Int)} (h : Qds w v l) : ∃ ao n c, v = .slice ao n c := by obtain ⟨a, c, e, _⟩ := h; exact ⟨_, _, _, e⟩
theorem Qds.nil (w : World) : Qds w (.slice none 0 0) [] := ⟨none, 0, rfl, Nat.le_refl _, fun _ => rfl, fun j h => absurd h (by simp)⟩
theorem r8qids_any (v : Value) (l : List (Int × Int × Int)) (w : World) (hv : Qds w v l) (hll : l.length ≤ 1000000000000000000) : Calls Tryz.prog 181 #[v] w (RetI (fun _ => True) w) := by
  have HQ := lh hv
  obtain ⟨ao, cap, rfl, hc, hnn, hcell⟩ := hv
  have HV := lh (fun a b c W => r8qid_any a b c W)
  clear hcell hnn
  go_enter Tryz.func181, Tryz.ntmps181
  by_cases h16 : l.length ≤ 16
  rotate_left
  · have k1 : (16 : Int) < l.length := by omega
    clear h16
    go_wp2_with fail
    go_ret
    exact retI _ trivial (Below.refl _ _)
  have k1 : decide ((16 : Int) < l.length) = false := decide_eq_false (by omega)
  go_wp2_with fail
  go_loopg [10] l.length (fun k s W => ∃ j : Nat, j ≤ l.length ∧ s = .int .i64 (j : Int) ∧ Below w.heap.size w W ∧ k = l.length - j)
  case atStart => exact ⟨0, Nat.zero_le _, rfl, Below.refl _ _, rfl⟩
  case round =>
    obtain ⟨j, hj, rfl, hb, hk⟩ := hrel
    have HB := lh hb
    have HK := lh hk
    obtain ⟨ao2, cap2, e2, _, _, hcell⟩ := HQ.out.below hb
    cases e2
    clear hb hk
    by_cases hlt : j < l.length
    · obtain ⟨b, off, rfl, hbl, d0, d1, d2⟩ := hcell j hlt
      have hki : (j : Int) < l.length := by omega
      clear hcell
      generalize l[j].1 = x at *
      generalize l[j].2.1 = y at *
      generalize l[j].2.2 = z at *
      go_wp2_with fail
      (with_reducible refine (HV.out _ _ _ _).mono ?_); rintro e w2 ⟨r, rfl, _, b2⟩
      have HB2 := lh (bnext HB.out b2)
      clear b2 d0 d1 d2
      go_wp2_with fail
      all_goals (first
        | (go_ret; exact retI _ trivial HB2.out)
        | (have hk := HK.out
           go_roundg (l.length - (j + 1))
           case measure => omega
           case rel => exact ⟨j + 1, by omega, by go_num, HB2.out, rfl⟩))
    · obtain rfl : j = l.length := by omega
      clear hcell
      go_wp2_with fail
      all_goals (go_ret; exact retI _ trivial HB.out)
/-- The lists of a message lie in memory; its texts are not longer than memory. -/
def MgIn (w : World) (m : Mg) (ns : List (List UInt8)) (qs : List (Int × Int × Int)) : Prop :=
  Txs w m.names ns ∧ Qds w m.qids qs ∧ ns.length ≤ 1000000000000000000 ∧ qs.length ≤ 1000000000000000000 ∧ (∀ s ∈ ns, s.length ≤ 1000000000000000000) ∧ m.name.length ≤ 1000000000000000000 ∧ m.sn.length ≤ 1000000000000000000
theorem MgIn.below {w w' : World} {m : Mg} {ns : List (List UInt8)} {qs : List (Int × Int × Int)} (h : MgIn w m ns qs) (hb : Below w.heap.size w w') : MgIn w' m ns qs :=
  ⟨h.1.below hb, h.2.1.below hb, h.2.2⟩
theorem MgIn.ok {w : World} {m : Mg} {ns : List (List UInt8)} {qs : List (Int × Int × Int)} (h : MgIn w m ns qs) : m.ok := ⟨h.1.form, h.2.1.form⟩
theorem r8fl_any (m : Mg) (hn : m.name.length ≤ 1000000000000000000) (hs : m.sn.length ≤ 1000000000000000000) (c : Int) (w : World) : Calls Tryz.prog 183 #[.agg m.cs.toArray, .int .u8 c] w (RetI (fun _ => True) w) := by
  have HB := lh (alloc_below w (mgobj m))
  have H1 := lh (heap_alloc_new w (mgobj m))
  have HC := lh (fun (W : World) (h : W.heap[w.heap.size]? = some (mgobj m)) => mg_cells h)
  have HNU := lh (fun n k W => r8num_any n k W)
  have HLE := lh (fun s k W => r8len_any s k W)
  have HVA := lh (fun W => rvalid_any m.name W hn)
  have HDI := lh (fun W => r7check_any m.st m.sd m.s0 m.s1 m.s2 m.sm m.sat m.smt m.sl m.sn m.su m.sg m.smu W hs)
  unfold mgobj dirv at *
  clear hn hs
  generalize m.cs = cs at *
  go_enter Tryz.func183, Tryz.ntmps183
  go_upto_region 1 with fail
  generalize World.alloc _ _ = w1 at *
  obtain ⟨c0, c1, c2, c3, c4, c5, c6, c7, c8, c9, c10, c11, c12, c13, c14, c15, c16, c17, c18, c19, c20, c21, c22, c23, c24, c25, c26, c27, c28, c29, c30, c31, c32, c33, c34, c35, c36, c37, c38⟩ := HC.out _ H1.out
  go_wp2_with fail
  repeat' (first
    | (go_ret; exact retI _ trivial HB.out)
    | ((with_reducible refine (HNU.out _ _ _).mono ?_); rintro e wx ⟨b, rfl, rfl⟩; go_wp2_with fail)
    | ((with_reducible refine (HLE.out _ _ _).mono ?_); rintro e wx ⟨b, rfl, rfl⟩; go_wp2_with fail)
    | ((with_reducible refine (HVA.out _).mono ?_); rintro e wx ⟨b, rfl, rfl⟩; go_wp2_with fail)
    | ((with_reducible refine (HDI.out _).mono ?_); rintro e w2 ⟨b, rfl, _, b2⟩; have HB2 := lh (bnext HB.out b2); clear b2; go_wp2_with fail; go_ret; exact retI _ trivial HB2.out))
end Go.Proofs.YtfibaopngpfmjaaGreatDoor
