/- A message is the same as itself. Conditions: those that each theorem names. -/
import Derived.Test.YtfibaopngpfmjaaGreatDoorRzB1
import Derived.Test.YtfibaopngpfmjaaGreatDoorRzA1
set_option linter.unusedVariables false
set_option linter.unusedSimpArgs false
set_option maxRecDepth 100000
set_option maxHeartbeats 8000000
namespace Go.Proofs.YtfibaopngpfmjaaGreatDoor
open Go.RowKit Go.Proofs
theorem rng_ds {W : World} {g : Nat} {m : Mg} {fr : Nat × Nat} (h : W.heap[g]? = some (.cells m.cs.toArray 48 fr)) : W.rangeAt g 22 m.ds := by
 intro j v hv
 rw [Lib.cell_of_heap h]
 have : m.cs[22 + j]? = m.ds[j]? := by
  have e : m.ds = (m.cs.drop 22).take 13 := rfl
  have hj : j < 13 := by have := (List.getElem?_eq_some_iff.1 hv).1; simpa [Mg.ds] using this
  rw [e, List.getElem?_take_of_lt hj, List.getElem?_drop]
 simpa [this] using hv
/-- The two messages in places of their own. -/
def SmSt (w W : World) (g : Nat) (m : Mg) : Prop := W.heap[g]? = some (mgobj m) ∧ W.heap[g + 1]? = some (mgobj m) ∧ Below w.heap.size w W
theorem SmSt.next {w W W' : World} {g : Nat} {m : Mg} (h : SmSt w W g m) (hb : Below W.heap.size W W') : SmSt w W' g m :=
 ⟨(hb.block _ (row_ltP h.1)).trans h.1, (hb.block _ (row_ltP h.2.1)).trans h.2.1, bnext h.2.2 hb⟩
/-- What Same reads of them. -/
abbrev SmR (W : World) (g : Nat) (m : Mg) (cs ds : List Value) : Prop := (W.rangeAt g 0 cs ∧ W.rangeAt g 22 ds ∧ W.cell? ⟨g, 37, none⟩ = some (.int .i64 m.term) ∧ W.cell? ⟨g, 35, none⟩ = some (.int .i64 m.err) ∧ W.cell? ⟨g, 12, none⟩ = some (.int .i64 m.q0) ∧ W.cell? ⟨g, 13, none⟩ = some (.int .i64 m.q1) ∧ W.cell? ⟨g, 14, none⟩ = some (.int .i64 m.q2) ∧ W.cell? ⟨g, 10, none⟩ = some (.slice none 0 0) ∧ W.cell? ⟨g, 11, none⟩ = some (.slice none 0 0)) ∧ (W.rangeAt (g + 1) 0 cs ∧ W.rangeAt (g + 1) 22 ds ∧ W.cell? ⟨(g + 1), 37, none⟩ = some (.int .i64 m.term) ∧ W.cell? ⟨(g + 1), 35, none⟩ = some (.int .i64 m.err) ∧ W.cell? ⟨(g + 1), 12, none⟩ = some (.int .i64 m.q0) ∧ W.cell? ⟨(g + 1), 13, none⟩ = some (.int .i64 m.q1) ∧ W.cell? ⟨(g + 1), 14, none⟩ = some (.int .i64 m.q2) ∧ W.cell? ⟨(g + 1), 10, none⟩ = some (.slice none 0 0) ∧ W.cell? ⟨(g + 1), 11, none⟩ = some (.slice none 0 0))
theorem SmSt.reads {w W : World} {g : Nat} {m : Mg} (h : SmSt w W g m) (hn : m.names = .slice none 0 0) (hq : m.qids = .slice none 0 0) : SmR W g m m.cs m.ds := by
 obtain ⟨h1, h2, _⟩ := h
 refine ⟨⟨rng_of h1, rng_ds h1, ?_, ?_, ?_, ?_, ?_, ?_, ?_⟩, ⟨rng_of h2, rng_ds h2, ?_, ?_, ?_, ?_, ?_, ?_, ?_⟩⟩
 all_goals first
  | (rw [Lib.cell_of_heap h1]; simp only [← hn, ← hq]; rfl)
  | (rw [Lib.cell_of_heap h1, ← hn]; rfl)
  | (rw [Lib.cell_of_heap h1, ← hq]; rfl)
  | (rw [Lib.cell_of_heap h1]; rfl)
  | (rw [Lib.cell_of_heap h2, ← hn]; rfl)
  | (rw [Lib.cell_of_heap h2, ← hq]; rfl)
  | (rw [Lib.cell_of_heap h2]; rfl)
theorem same_self (m : Mg) (hn : m.names = .slice none 0 0) (hq : m.qids = .slice none 0 0) (w : World) : Calls Tryz.prog 80 #[.agg m.cs.toArray, .agg m.cs.toArray] w fun e w' => e = .returned (.bool true) ∧ Below w.heap.size w w' := by
 have hok : m.ok := ⟨⟨_, _, _, hn⟩, ⟨_, _, _, hq⟩⟩
 have HS0 := lh (show SmSt w ((w.alloc (mgobj m)).alloc (mgobj m)) w.heap.size m from ⟨(Lib.alloc_old _ _ _ (by simp)).trans (heap_alloc_new w _), by
  have := heap_alloc_new (w.alloc (mgobj m)) (mgobj m)
  rw [show (w.alloc (mgobj m)).heap.size = w.heap.size + 1 from by simp] at this
  exact this, bnext (alloc_below w _) (alloc_below _ _)⟩)
 have HN := lh (fun (W : World) => nums_any m hok W)
 have HX := lh (fun (W : World) => texts_any m hok W)
 have HE1 := eqns_self m
 have HE2 := eqts_self m
 have HE3 := eqds_self m
 have HQ := lh eqq_nil
 have HT := lh eqs_nil
 have HR := lh (fun (W : World) (h : SmSt w W w.heap.size m) => h.reads hn hq)
 have hsz : (Tryz.prog.info? 48).map (·.size) = some m.cs.length := by kernel_rfl
 have hu := Tryz.underlying48
 have hud := Tryz.underlying46
 have hsd : (Tryz.prog.info? 46).map (·.size) = some m.ds.length := by kernel_rfl
 have HU := lh (And.intro hu (And.intro hud (And.intro hsz hsd)))
 clear hu hud hsz hsd
 unfold mgobj at HS0
 clear hok hn hq
 generalize hcs : m.cs = cs at *
 generalize hds : m.ds = ds at *
 generalize hns : m.ns = ns at *
 generalize hts : m.ts = ts at *
 clear hcs hds hns hts
 go_enter Tryz.func80, Tryz.ntmps80
 go_wp2_with fail
 generalize World.alloc _ _ = w1 at *
 generalize w.heap.size = g at *
 have HS1 := lh (HS0.out.next (below_drew1 w1))
 refine wp_region_held_drew (S := (fun W' => (W'.rangeAt g 0 cs ∧ W'.rangeAt g 22 ds ∧ W'.cell? ⟨g, 37, none⟩ = some (.int .i64 m.term) ∧ W'.cell? ⟨g, 35, none⟩ = some (.int .i64 m.err) ∧ W'.cell? ⟨g, 12, none⟩ = some (.int .i64 m.q0) ∧ W'.cell? ⟨g, 13, none⟩ = some (.int .i64 m.q1) ∧ W'.cell? ⟨g, 14, none⟩ = some (.int .i64 m.q2) ∧ W'.cell? ⟨g, 10, none⟩ = some (.slice none 0 0) ∧ W'.cell? ⟨g, 11, none⟩ = some (.slice none 0 0)) ∧ (W'.rangeAt (g + 1) 0 cs ∧ W'.rangeAt (g + 1) 22 ds ∧ W'.cell? ⟨(g + 1), 37, none⟩ = some (.int .i64 m.term) ∧ W'.cell? ⟨(g + 1), 35, none⟩ = some (.int .i64 m.err) ∧ W'.cell? ⟨(g + 1), 12, none⟩ = some (.int .i64 m.q0) ∧ W'.cell? ⟨(g + 1), 13, none⟩ = some (.int .i64 m.q1) ∧ W'.cell? ⟨(g + 1), 14, none⟩ = some (.int .i64 m.q2) ∧ W'.cell? ⟨(g + 1), 10, none⟩ = some (.slice none 0 0) ∧ W'.cell? ⟨(g + 1), 11, none⟩ = some (.slice none 0 0)))) (by kernel_rfl) (HR.out _ HS1.out) (fun hHeld => ?_)
 refine tk 0 7 ?_
 refine tkY (v := .agg cs.toArray) 1 8 rfl (yieldsIf_load_mid (by rfl) 48 (.tmp 2) rfl g 0 (by rfl) cs _ (fun _ h => h.1.1) HU.out.1 rfl HU.out.2.2.1) ?_
 refine tk 3 10 ?_
 refine tkY (v := .agg cs.toArray) 4 11 rfl (yieldsIf_load_mid (by rfl) 48 (.tmp 3) rfl (g + 1) 0 (by rfl) cs _ (fun _ h => h.2.1) HU.out.1 rfl HU.out.2.2.1) ?_
 refine rdy 2 (fun K hK => ?_)
 go_simp
 go_wp2_with (go_at_call 132; (with_reducible refine (HN.out _).mono ?_); rintro e v2 ⟨rfl, b2⟩)
 have HS2 := lh (HS1.out.next b2)
 clear b2
 refine hK.out _ _ (HR.out _ HS2.out) (fun hHeld => ?_)
 clear hK K
 try simp only [Act.put, px1, px2, px3]
 refine rdy 5 (fun K hK => ?_)
 go_simp
 go_wp2_with (go_at_call 132; (with_reducible refine (HN.out _).mono ?_); rintro e v3 ⟨rfl, b3⟩)
 have HS3 := lh (HS2.out.next b3)
 clear b3
 refine hK.out _ _ (HR.out _ HS3.out) (fun hHeld => ?_)
 clear hK K
 try simp only [Act.put, px1, px2, px3]
 refine tk 6 13 ?_
 refine tk 7 14 ?_
 refine tk 8 15 ?_
 refine tkY (v := .agg cs.toArray) 9 16 rfl (yieldsIf_load_mid (by rfl) 48 (.tmp 2) rfl g 0 (by rfl) cs _ (fun _ h => h.1.1) HU.out.1 rfl HU.out.2.2.1) ?_
 refine tk 11 18 ?_
 refine tkY (v := .agg cs.toArray) 12 19 rfl (yieldsIf_load_mid (by rfl) 48 (.tmp 3) rfl (g + 1) 0 (by rfl) cs _ (fun _ h => h.2.1) HU.out.1 rfl HU.out.2.2.1) ?_
 refine rdy 10 (fun K hK => ?_)
 go_simp
 go_wp2_with (go_at_call 133; (with_reducible refine (HX.out _).mono ?_); rintro e v4 ⟨rfl, b4⟩)
 have HS4 := lh (HS3.out.next b4)
 clear b4
 refine hK.out _ _ (HR.out _ HS4.out) (fun hHeld => ?_)
 clear hK K
 try simp only [Act.put, px1, px2, px3]
 refine rdy 13 (fun K hK => ?_)
 go_simp
 go_wp2_with (go_at_call 133; (with_reducible refine (HX.out _).mono ?_); rintro e v5 ⟨rfl, b5⟩)
 have HS5 := lh (HS4.out.next b5)
 clear b5
 refine hK.out _ _ (HR.out _ HS5.out) (fun hHeld => ?_)
 clear hK K
 try simp only [Act.put, px1, px2, px3]
 refine tk 14 21 ?_
 refine tk 15 22 ?_
 refine tk 16 23 ?_
 refine tk 17 24 ?_
 refine tk 18 25 ?_
 refine tk 19 26 ?_
 refine tk 20 27 ?_
 refine tk 21 28 ?_
 refine tk 22 29 ?_
 refine tk 23 30 ?_
 refine tk 24 31 ?_
 refine tk 25 32 ?_
 refine tk 26 33 ?_
 refine tk 27 34 ?_
 refine tk 28 35 ?_
 refine tk 29 36 ?_
 refine tk 30 37 ?_
 refine tk 31 38 ?_
 refine tk 32 39 ?_
 refine tk 33 40 ?_
 refine tk 34 41 ?_
 refine tk 35 42 ?_
 refine tk 36 43 ?_
 refine tk 37 44 ?_
 refine tk 38 45 ?_
 refine tkY (v := .agg ds.toArray) 39 46 rfl (yieldsIf_load_mid (by rfl) 46 (.tmp 45) rfl g 22 (by rfl) ds _ (fun _ h => h.1.2.1) HU.out.2.1 rfl HU.out.2.2.2) ?_
 refine tk 40 47 ?_
 refine tkY (v := .agg ds.toArray) 41 48 rfl (yieldsIf_load_mid (by rfl) 46 (.tmp 47) rfl (g + 1) 22 (by rfl) ds _ (fun _ h => h.2.2.1) HU.out.2.1 rfl HU.out.2.2.2) ?_
 refine tk 42 49 ?_
 refine tk 43 50 ?_
 refine tk 44 51 ?_
 refine tk 45 52 ?_
 refine tk 46 53 ?_
 refine tk 47 54 ?_
 refine tk 48 55 ?_
 refine rdy 49 (fun K hK => ?_)
 go_simp
 go_wp2_with (go_at_call 134; (with_reducible refine (HT.out _).mono ?_); rintro e vv ⟨rfl, rfl⟩)
 refine hK.out _ _ (HR.out _ HS5.out) (fun hHeld => ?_)
 clear hK K
 try simp only [Act.put, px1, px2, px3]
 refine tk 50 57 ?_
 refine tk 51 58 ?_
 refine tk 52 59 ?_
 refine tk 53 60 ?_
 refine tk 54 61 ?_
 refine tk 55 62 ?_
 refine rdy 56 (fun K hK => ?_)
 go_simp
 go_wp2_with (go_at_call 135; (with_reducible refine (HQ.out _).mono ?_); rintro e vv ⟨rfl, rfl⟩)
 refine hK.out _ _ (HR.out _ HS5.out) (fun hHeld => ?_)
 clear hK K
 try simp only [Act.put, px1, px2, px3]
 refine tk 57 64 ?_
 refine tk 58 4 ?_
 refine wpAnyH_done (by kernel_rfl) ?_ _
 go_wp2_with fail
 go_ret
 exact ⟨rfl, HS5.out.2.2⟩
end Go.Proofs.YtfibaopngpfmjaaGreatDoor
