/- What the reference's schedule returns: the 64 words of Sha.sched, in a row of its own. Conditions: a block of 64 bytes at least. -/
import Derived.Test.YtjjdaelddicokaaGreatDoorRefPad
import Derived.Deep.AppendLies
import Derived.Test.YtjjdaelddicokaaGreatDoorPure2
import Derived.Deep.RegionHeld3
import Derived.Deep.RegionLawGrows
import Derived.Deep.Onto
set_option linter.unusedVariables false
set_option linter.unusedSimpArgs false
namespace Go.Proofs.YtjjdaelddicokaaGreatDoor
open Go.RowKit
theorem info_u32 : (Tryz.prog.info? 80).map (fun i => (i.zero, i.size, i.bytes)) = some (some (.int .u32 0), 1, 4) := by kernel_rfl
theorem us_append (a b : List Nat) : us (a ++ b) = us a ++ us b := by simp [us]
theorem us_oneCell (l : List Nat) : ∀ u ∈ us l, u.oneCell' = true := by
  intro u hu; simp only [us, List.mem_map] at hu; obtain ⟨_, _, rfl⟩ := hu; rfl
theorem us_get (l : List Nat) (j : Nat) (h : j < l.length) : (us l)[j]? = some (.int .u32 ((l.getD j 0 : Nat) : Int)) := by
  simp [us, h]
theorem inw_bits (s : ByteArray) (j : Nat) (h : 4 * j + 3 < s.size) :
    bits BinOp.or IntKind.u32 (bits BinOp.or IntKind.u32 (bits BinOp.or IntKind.u32 (IntKind.u32.wrap (IntKind.u32.wrap ((s[4 * j]'(by omega)).toNat : Int) * 16777216)) (IntKind.u32.wrap (IntKind.u32.wrap ((s[4 * j + 1]'(by omega)).toNat : Int) * 65536))) (IntKind.u32.wrap (IntKind.u32.wrap ((s[4 * j + 2]'(by omega)).toNat : Int) * 256))) (IntKind.u32.wrap ((s[4 * j + 3]'h).toNat : Int)) = ((Sha.inw s.data.toList j : Nat) : Int) := by
  simp only [IntKind.wrap_u32']
  rw [wrd_bits]
  have hg : ∀ t (ht : t < s.size), s[t] = s.data.toList.getD t 0 := fun t ht => by
    have hl : t < s.data.toList.length := by simpa using ht
    rw [List.getD_eq_getElem?_getD, List.getElem?_eq_getElem hl]; rfl
  unfold Sha.inw
  rw [hg, hg, hg, hg]
theorem cell_alloc_far {w : World} {o : Obj} {a : Addr} {v : Value} (hlt : a.block < w.heap.size) (h : w.cell? a = some v) : (w.alloc o).drew.cell? a = some v := by
  have := (World.grownBy_alloc w o none).cell h (by simp)
  exact this
theorem row_keep {w : World} {base g n cap i k : Nat} {xs ys : List Value} {u v : Value} (h : w.ownsRow base 80 1 (.slice (some ⟨g, 0, none⟩) n cap) n (xs ++ ys)) (hi : xs[i]? = some u) (hk : xs[k]? = some v) : w.cell? ⟨g, i, none⟩ = some u ∧ w.cell? ⟨g, k, none⟩ = some v := by
  have a := h.cells (g := g) rfl i u (by rw [List.getElem?_append_left (by rcases Nat.lt_or_ge i xs.length with h' | h'; exact h'; rw [List.getElem?_eq_none h'] at hi; cases hi)]; exact hi)
  have b := h.cells (g := g) rfl k v (by rw [List.getElem?_append_left (by rcases Nat.lt_or_ge k xs.length with h' | h'; exact h'; rw [List.getElem?_eq_none h'] at hk; cases hk)]; exact hk)
  rw [Addr.add_lit, Nat.zero_add] at a b
  exact ⟨a, b⟩
set_option maxRecDepth 100000 in
set_option maxHeartbeats 4000000 in
theorem rsched_any (s : ByteArray) (w : World) (h : 64 ≤ s.size) (hs : s.size ≤ 9223372036854775807) :
    Calls Tryz.prog 91 #[.string s] w fun e w' => ∃ v, e = .returned v ∧ w'.ownsRow w.heap.size 80 1 v 64 (us (Sha.sched s.data.toList 64)) ∧ Below w.heap.size w w' := by
  obtain ⟨i0, hi, hz0, hz1, hz2⟩ := info_parts info_u32
  have HB0 := Lib.hid (Below.refl w.heap.size w)
  go_enter Tryz.func91, Tryz.ntmps91
  go_wp2_with fail
  go_loopw [3, 4] (fun v i wr => ∃ j : Nat, j ≤ 16 ∧ i = .int .i64 (j : Int) ∧ wr.ownsRow w.heap.size 80 1 v j (us (Sha.sched s.data.toList j)) ∧ Below w.heap.size w wr) (fun _ i _ => 16 - (intOf i).toNat)
  case atStart => exact ⟨0, by omega, rfl, World.ownsRow_nil _ _ _ _, HB0.out⟩
  case round =>
    obtain ⟨j, hj, rfl, hown, hb⟩ := hrel
    by_cases hlt : j < 16
    · have HS := Lib.hid (show Sha.sched s.data.toList (j + 1) = Sha.sched s.data.toList j ++ [Sha.inw s.data.toList j] from by rw [Sha.sched, if_pos hlt])
      have HI := Lib.hid (inw_bits s j (by omega))
      have w0 : IntKind.i64.wrap (4 * (j : Int)) = 4 * (j : Int) := IntWalk.i64_in _ (by omega)
      have w1 : IntKind.i64.wrap (4 * (j : Int) + 1) = 4 * (j : Int) + 1 := IntWalk.i64_in _ (by omega)
      have w2 : IntKind.i64.wrap (4 * (j : Int) + 2) = 4 * (j : Int) + 2 := IntWalk.i64_in _ (by omega)
      have w3 : IntKind.i64.wrap (4 * (j : Int) + 3) = 4 * (j : Int) + 3 := IntWalk.i64_in _ (by omega)
      have p0 : 0 ≤ 4 * (j : Int) := by omega
      have p1 : 0 ≤ 4 * (j : Int) + 1 := by omega
      have p2 : 0 ≤ 4 * (j : Int) + 2 := by omega
      have p3 : 0 ≤ 4 * (j : Int) + 3 := by omega
      have q0 : 4 * (j : Int) < s.size := by omega
      have q1 : 4 * (j : Int) + 1 < s.size := by omega
      have q2 : 4 * (j : Int) + 2 < s.size := by omega
      have q3 : 4 * (j : Int) + 3 < s.size := by omega
      have n0 : 4 * j < s.size := by omega
      have n1 : 4 * j + 1 < s.size := by omega
      have n2 : 4 * j + 2 < s.size := by omega
      have n3 : 4 * j + 3 < s.size := by omega
      have t0 : (4 * (j : Int)).toNat = 4 * j := by omega
      have t1 : (4 * (j : Int) + 1).toNat = 4 * j + 1 := by omega
      have t2 : (4 * (j : Int) + 2).toNat = 4 * j + 2 := by omega
      have t3 : (4 * (j : Int) + 3).toNat = 4 * j + 3 := by omega
      go_wp2_with fail
      refine wp_region_pure_tail2 30 (by kernel_rfl) (by kernel_rfl) (fun c a d v w h => by cases d <;> (simp +zetaDelta only [Exit.inBlock, Exit.then, bodyPost, Act.put] at h ⊢; exact h)) ?_
      simp only [List.take_succ_cons, List.take_zero, List.drop_succ_cons, List.drop_zero]
      iterate 30
        (refine wpPure_step _ (.inl ⟨rfl, fun w => by go_simp; exact rfl⟩) (fun K hK => ?_)
         go_simp
         refine hK _ ?_
         clear hK K)
      refine wpPure_nil ?_
      have hown' : wr.drew.ownsRow w.heap.size 80 1 u3 j (us (Sha.sched s.data.toList j)) := hown
      have hb' := hb.drew
      clear hown hb
      generalize wr.drew = wq at *
      rw [HI.out]
      generalize Sha.inw s.data.toList j = x at *
      go_wp2_with (at_builtin; refine wpList_append_own _ rfl _ _ 81 rfl w.heap.size 80 i0 (.int .u32 0) 1 4 Tryz.underlying81 hi hz0 hz1 hz2 rfl (by decide) _ _ _ rfl (hown'.alloc _) ⟨wq.heap.size, 0, none⟩ 1 1 (us [x]) rfl rfl ?c1 ?c2 ?c3 ?c4 ?c5 ?_)
      case c1 => exact World.news_of_block (t := 80) (fr := (0, 0)) (heap_alloc_new wq _)
      case c2 => exact us_oneCell _
      case c3 => unfold maxLen; omega
      case c4 => omega
      case c5 => exact Nat.le_trans hb'.size (by simp)
      intro v' w6 hown6 hgrow6 _
      have hb6 : Below w.heap.size w w6 := (hb'.alloc hb'.size _).grown hgrow6 (Nat.le_trans hb'.size (by simp)) (fun k hk => (hown'.lt k hk).1)
      rw [← us_append] at hown6
      clear hgrow6 hown' hb'
      go_wp2_with fail
      go_roundw
      case rel => exact ⟨j + 1, by omega, by go_num, by rw [HS.out]; exact hown6, hb6⟩
      case measure => simp [intOf]; omega
    · obtain rfl : j = 16 := by omega
      clear HB0
      go_wp2_with fail
      go_loopw [3, 5] (fun v i wr => ∃ j : Nat, 16 ≤ j ∧ j ≤ 64 ∧ i = .int .i64 (j : Int) ∧ wr.ownsRow w.heap.size 80 1 v j (us (Sha.sched s.data.toList j)) ∧ Below w.heap.size w wr) (fun _ i _ => 64 - (intOf i).toNat)
      case atStart => exact ⟨16, by omega, by omega, rfl, hown, hb⟩
      case round =>
        clear hown hb
        obtain ⟨j, hj0, hj, rfl, hown, hb⟩ := hrel
        by_cases hlt : j < 64
        · have hlen := Sha.sched_length s.data.toList j
          have HOWN := Lib.hid hown
          rcases hown.2 with ⟨_, h00⟩ | ⟨g, cap, cur, rfl, hbg, hg, hnc, hcm, hcs, htk⟩
          · omega
          have hcell : ∀ t, t < j → wr.cell? ⟨g, t, none⟩ = some (.int .u32 (((Sha.sched s.data.toList j).getD t 0 : Nat) : Int)) := fun t ht => by
            have := HOWN.out.cells (g := g) rfl t _ (us_get _ t (by omega))
            rw [Addr.add_lit, Nat.zero_add] at this; exact this
          have hlt4 := fun t => Sha.getD_lt (Sha.sched_lt s.data.toList j) t
          have c15 := hcell (j - 15) (by omega)
          have c2 := hcell (j - 2) (by omega)
          have c16 := hcell (j - 16) (by omega)
          have c7 := hcell (j - 7) (by omega)
          have l15 := hlt4 (j - 15)
          have l2 := hlt4 (j - 2)
          have l16 := hlt4 (j - 16)
          have l7 := hlt4 (j - 7)
          have HS := Lib.hid (show Sha.sched s.data.toList (j + 1) = Sha.sched s.data.toList j ++ [Sha.nxt (Sha.sched s.data.toList j) j] from by rw [Sha.sched, if_neg (by omega)])
          have HB := Lib.hid hb
          clear hcell hlt4 hlen hbg hg hcm hcs htk hown hb
          generalize hx15 : (Sha.sched s.data.toList j).getD (j - 15) 0 = x15 at *
          generalize hx2 : (Sha.sched s.data.toList j).getD (j - 2) 0 = x2 at *
          generalize hx16 : (Sha.sched s.data.toList j).getD (j - 16) 0 = x16 at *
          generalize hx7 : (Sha.sched s.data.toList j).getD (j - 7) 0 = x7 at *
          have nv : Sha.nxt (Sha.sched s.data.toList j) j = (((x16 + Sha.sg0 x15) % 4294967296 + x7) % 4294967296 + Sha.sg1 x2) % 4294967296 := by
            rw [← hx16, ← hx7, ← hx15, ← hx2]; rfl
          have NV := Lib.hid nv
          have HX16 := Lib.hid hx16
          have HX7 := Lib.hid hx7
          clear hx15 hx2 hx16 hx7 nv
          have R7 := Lib.hid (fun w => rotr_any x15 7 w l15 (by decide) (by decide))
          have R18 := Lib.hid (fun w => rotr_any x15 18 w l15 (by decide) (by decide))
          have R17 := Lib.hid (fun w => rotr_any x2 17 w l2 (by decide) (by decide))
          have R19 := Lib.hid (fun w => rotr_any x2 19 w l2 (by decide) (by decide))
          have t15 : ((j : Int) - 15).toNat = j - 15 := by omega
          have t2 : ((j : Int) - 2).toNat = j - 2 := by omega
          have w15 : IntKind.i64.wrap ((j : Int) - 15) = (j : Int) - 15 := IntWalk.i64_in _ (by omega)
          have w2 : IntKind.i64.wrap ((j : Int) - 2) = (j : Int) - 2 := IntWalk.i64_in _ (by omega)
          have b15 : (0 : Int) ≤ (j : Int) - 15 := by omega
          have d15 : (j : Int) - 15 < j := by omega
          have b2 : (0 : Int) ≤ (j : Int) - 2 := by omega
          have d2 : (j : Int) - 2 < j := by omega
          go_wp2_with fail
          go_quiet (fail)
          clear t15 t2 w15 w2
          have q16 : (wr.drewN nq).cell? ⟨g, j - 16, none⟩ = some (.int .u32 (x16 : Int)) := c16
          have q7 : (wr.drewN nq).cell? ⟨g, j - 7, none⟩ = some (.int .u32 (x7 : Int)) := c7
          have HO := Lib.hid (show (wr.drewN nq).ownsRow w.heap.size 80 1 (.slice (some ⟨g, 0, none⟩) j cap) j (us (Sha.sched s.data.toList j)) from HOWN.out)
          have HB' := Lib.hid (below_drewN HB.out nq)
          clear c16 c7 c15 c2 b15 d15 b2 d2 HOWN HB
          generalize wr.drewN nq = wq at *
          go_wp2_with fail
          refine (R7.out _).mono ?_; rintro e w' ⟨rfl, m1, rfl⟩
          replace q16 : (wq.drewN m1).cell? ⟨g, j - 16, none⟩ = some (.int .u32 (x16 : Int)) := q16
          replace q7 : (wq.drewN m1).cell? ⟨g, j - 7, none⟩ = some (.int .u32 (x7 : Int)) := q7
          replace HO := Lib.hid (show (wq.drewN m1).ownsRow w.heap.size 80 1 (.slice (some ⟨g, 0, none⟩) j cap) j (us (Sha.sched s.data.toList j)) from HO.out)
          replace HB' := Lib.hid (below_drewN HB'.out m1)
          generalize wq.drewN m1 = wq at *
          go_wp2_with fail
          refine (R18.out _).mono ?_; rintro e w' ⟨rfl, m1, rfl⟩
          replace q16 : (wq.drewN m1).cell? ⟨g, j - 16, none⟩ = some (.int .u32 (x16 : Int)) := q16
          replace q7 : (wq.drewN m1).cell? ⟨g, j - 7, none⟩ = some (.int .u32 (x7 : Int)) := q7
          replace HO := Lib.hid (show (wq.drewN m1).ownsRow w.heap.size 80 1 (.slice (some ⟨g, 0, none⟩) j cap) j (us (Sha.sched s.data.toList j)) from HO.out)
          replace HB' := Lib.hid (below_drewN HB'.out m1)
          generalize wq.drewN m1 = wq at *
          go_wp2_with fail
          refine (R17.out _).mono ?_; rintro e w' ⟨rfl, m1, rfl⟩
          replace q16 : (wq.drewN m1).cell? ⟨g, j - 16, none⟩ = some (.int .u32 (x16 : Int)) := q16
          replace q7 : (wq.drewN m1).cell? ⟨g, j - 7, none⟩ = some (.int .u32 (x7 : Int)) := q7
          replace HO := Lib.hid (show (wq.drewN m1).ownsRow w.heap.size 80 1 (.slice (some ⟨g, 0, none⟩) j cap) j (us (Sha.sched s.data.toList j)) from HO.out)
          replace HB' := Lib.hid (below_drewN HB'.out m1)
          generalize wq.drewN m1 = wq at *
          go_wp2_with fail
          refine (R19.out _).mono ?_; rintro e w' ⟨rfl, m1, rfl⟩
          replace q16 : (wq.drewN m1).cell? ⟨g, j - 16, none⟩ = some (.int .u32 (x16 : Int)) := q16
          replace q7 : (wq.drewN m1).cell? ⟨g, j - 7, none⟩ = some (.int .u32 (x7 : Int)) := q7
          replace HO := Lib.hid (show (wq.drewN m1).ownsRow w.heap.size 80 1 (.slice (some ⟨g, 0, none⟩) j cap) j (us (Sha.sched s.data.toList j)) from HO.out)
          replace HB' := Lib.hid (below_drewN HB'.out m1)
          generalize wq.drewN m1 = wq at *
          go_wp2_with fail
          have l0 := Sha.sg0_lt l15
          have l1 := Sha.sg1_lt l2
          simp only [sg0_bits x15 l15, sg1_bits x2 l2]
          generalize Sha.sg0 x15 = s0 at *
          generalize Sha.sg1 x2 = s1 at *
          clear l15 l2
          have t16 : ((j : Int) - 16).toNat = j - 16 := by omega
          have t7 : ((j : Int) - 7).toNat = j - 7 := by omega
          have w16 : IntKind.i64.wrap ((j : Int) - 16) = (j : Int) - 16 := IntWalk.i64_in _ (by omega)
          have w7 : IntKind.i64.wrap ((j : Int) - 7) = (j : Int) - 7 := IntWalk.i64_in _ (by omega)
          have b16 : (0 : Int) ≤ (j : Int) - 16 := by omega
          have e16 : (16 : Int) ≤ (j : Int) := by omega
          have d16 : (j : Int) - 16 < j := by omega
          have b7 : (0 : Int) ≤ (j : Int) - 7 := by omega
          have d7 : (j : Int) - 7 < j := by omega
          have e7 : (7 : Int) ≤ (j : Int) := by omega
          generalize Sha.nxt (Sha.sched s.data.toList j) j = nx at *
          have hgl : g < wq.heap.size := block_lt_of_cell q16
          have hown := HO.out
          have hb := HB'.out
          have HG16 := Lib.hid (show (us (Sha.sched s.data.toList j))[j - 16]? = some (.int .u32 (x16 : Int)) from by rw [us_get _ _ (by rw [Sha.sched_length]; omega), HX16.out])
          have HG7 := Lib.hid (show (us (Sha.sched s.data.toList j))[j - 7]? = some (.int .u32 (x7 : Int)) from by rw [us_get _ _ (by rw [Sha.sched_length]; omega), HX7.out])
          by_cases hfit : j + 1 ≤ cap
          · go_region_held3 (fun w' => w'.cell? ⟨g, j - 16, none⟩ = some (.int .u32 (x16 : Int)) ∧ w'.cell? ⟨g, j - 7, none⟩ = some (.int .u32 (x7 : Int)))
              (first | go_keep | exact row_keep hown1 HG16.out HG7.out)
              ((refine step_append_fits (by rfl) _ _ _ (by rfl) w.heap.size 80 i0 1 Tryz.underlying81 hi hz1 g j cap _ (by rfl) ((hown.alloc _).drew) ⟨wq.heap.size, 0, none⟩ 1 1 _ (by rfl) ?_ (World.news_of_block (t := 80) (fr := (0, 0)) (heap_alloc_new wq _)) ?_ hfit ?_; rfl; (intro u hu; simp at hu; subst hu; rfl); intro w1 hown1 hgrow))
            have hb6 : Below w.heap.size w w1 := ((hb.alloc hb.size _).drew).grown hgrow (Nat.le_trans hb.size (by simp)) (fun k hk => by cases hk; exact (hown.lt g rfl).1)
            change w1.ownsRow _ _ _ _ _ (_ ++ [_]) at hown1
            rw [show ∀ V : Int, V = (nx : Int) → [Value.int .u32 V] = us [nx] from fun V h => by rw [h]; rfl] at hown1
            rotate_left
            · simp only [IntKind.wrap_u32']
              rw [NV.out]
              omega
            rw [← us_append, ← HS.out] at hown1
            have HOF := Lib.hid hown1
            have HBF := Lib.hid hb6
            clear hown1 hb6 hgrow hown hb q16 q7
            go_wp2_with fail
            go_roundw
            case rel => (repeat apply Exists.intro); exact ⟨⟨j + 1, by omega, by omega, by go_num, HOF.out, HBF.out⟩, rfl⟩
            case measure => simp [intOf]; omega
          · have HHOLD := Lib.hid (fun (b : Addr) (h : some (⟨g, 0, none⟩ : Addr) = some b) (i : Nat) (u : Value) (hu : (us (Sha.sched s.data.toList j))[i]? = some u) => (by cases h; rw [hown.cells (g := g) rfl i u hu] : wq.cell? (b.add i) = some u))
            go_region_held3 (fun w' => w'.cell? ⟨g, j - 16, none⟩ = some (.int .u32 (x16 : Int)) ∧ w'.cell? ⟨g, j - 7, none⟩ = some (.int .u32 (x7 : Int)))
              (first | go_keep | exact ⟨hgrow.cell_far ⟨g, j - 16, none⟩ (by simp; omega) (by simp) ▸ ‹_ ∧ _›.1, hgrow.cell_far ⟨g, j - 7, none⟩ (by simp; omega) (by simp) ▸ ‹_ ∧ _›.2⟩)
              ((refine step_append_grows (by rfl) _ _ _ (by rfl) 80 i0 (.int .u32 0) 1 4 Tryz.underlying81 hi hz0 hz1 hz2 rfl (by decide) (some ⟨g, 0, none⟩) j cap (us (Sha.sched s.data.toList j)) (by rfl) (fun h => nomatch h) ?_ ?_ ⟨wq.heap.size, 0, none⟩ 1 1 _ (by rfl) ?_ (World.news_of_block (t := 80) (fr := (0, 0)) (heap_alloc_new wq _)) ?_ (by omega) ?_ ?_ ?_; (rw [us_length, Sha.sched_length, Nat.mul_one]); (intro b hb0 i u hu; exact (cell_alloc_far (by cases hb0; rw [Addr.add_lit]; exact hgl) (HHOLD.out b hb0 i u hu))); rfl; (intro u hu; simp at hu; subst hu; rfl); (unfold maxLen; omega); omega; intro v1 w1 hown1 hgrow))
            have hb6 : Below w.heap.size w w1 := ((hb.alloc hb.size _).drew).grown hgrow (Nat.le_trans hb.size (by simp)) (fun k hk => by cases hk)
            replace hown1 : w1.ownsRow w.heap.size 80 1 v1 (j + 1) (us (Sha.sched s.data.toList j) ++ [_]) := World.ownsRow.mono hown1 (Nat.le_trans hb.size (by simp))
            rw [show ∀ V : Int, V = (nx : Int) → [Value.int .u32 V] = us [nx] from fun V h => by rw [h]; rfl] at hown1
            rotate_left
            · simp only [IntKind.wrap_u32']
              rw [NV.out]
              omega
            rw [← us_append, ← HS.out] at hown1
            have HOF := Lib.hid hown1
            have HBF := Lib.hid hb6
            clear hown1 hb6 hgrow hown hb q16 q7
            go_wp2_with fail
            go_roundw
            case rel => (repeat apply Exists.intro); exact ⟨⟨j + 1, by omega, by omega, by go_num, HOF.out, HBF.out⟩, rfl⟩
            case measure => simp [intOf]; omega
        · obtain rfl : j = 64 := by omega
          have HOW := Lib.hid hown
          have HB := Lib.hid hb
          clear hown hb
          go_wp2_with fail
          go_ret
          exact ⟨_, rfl, HOW.out, HB.out⟩
end Go.Proofs.YtjjdaelddicokaaGreatDoor
