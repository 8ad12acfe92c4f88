/- What msg.Same returns at a message and itself: true. Conditions: no names, no qids. -/
import Derived.Test.YtfibaopngpfmjaaGreatDoorRqMg
import Derived.Test.YtfibaopngpfmjaaGreatDoorSkips
set_option linter.unusedVariables false
set_option linter.unusedSimpArgs false
namespace Go.Proofs.YtfibaopngpfmjaaGreatDoor
open Go.RowKit Go.Proofs
theorem rng_ds {W : World} {g : Nat} {m : Mg} {fr : Nat × Nat} (h : W.heap[g]? = some (.cells m.cs.toArray 48 fr)) : W.rangeAt g 22 m.ds := by
  intro j v hv
  rw [Lib.cell_of_heap h]
  have : m.cs[22 + j]? = m.ds[j]? := by
    have e : m.ds = (m.cs.drop 22).take 13 := rfl
    have hj : j < 13 := by have := (List.getElem?_eq_some_iff.1 hv).1; simpa [Mg.ds] using this
    rw [e, List.getElem?_take_of_lt hj, List.getElem?_drop]
  simpa [this] using hv
/-- The two messages in places of their own. -/
def SmSt (w W : World) (g : Nat) (m : Mg) : Prop := W.heap[g]? = some (mgobj m) ∧ W.heap[g + 1]? = some (mgobj m) ∧ Below w.heap.size w W
theorem SmSt.next {w W W' : World} {g : Nat} {m : Mg} (h : SmSt w W g m) (hb : Below W.heap.size W W') : SmSt w W' g m :=
  ⟨(hb.block _ (row_ltP h.1)).trans h.1, (hb.block _ (row_ltP h.2.1)).trans h.2.1, bnext h.2.2 hb⟩
/-- What Same reads of them. -/
abbrev SmR (W : World) (g : Nat) (m : Mg) (cs ds : List Value) : Prop := (W.rangeAt g 0 cs ∧ W.rangeAt g 22 ds ∧ W.cell? ⟨g, 37, none⟩ = some (.int .i64 m.term) ∧ W.cell? ⟨g, 35, none⟩ = some (.int .i64 m.err) ∧ W.cell? ⟨g, 12, none⟩ = some (.int .i64 m.q0) ∧ W.cell? ⟨g, 13, none⟩ = some (.int .i64 m.q1) ∧ W.cell? ⟨g, 14, none⟩ = some (.int .i64 m.q2) ∧ W.cell? ⟨g, 10, none⟩ = some (.slice none 0 0) ∧ W.cell? ⟨g, 11, none⟩ = some (.slice none 0 0)) ∧ (W.rangeAt (g + 1) 0 cs ∧ W.rangeAt (g + 1) 22 ds ∧ W.cell? ⟨(g + 1), 37, none⟩ = some (.int .i64 m.term) ∧ W.cell? ⟨(g + 1), 35, none⟩ = some (.int .i64 m.err) ∧ W.cell? ⟨(g + 1), 12, none⟩ = some (.int .i64 m.q0) ∧ W.cell? ⟨(g + 1), 13, none⟩ = some (.int .i64 m.q1) ∧ W.cell? ⟨(g + 1), 14, none⟩ = some (.int .i64 m.q2) ∧ W.cell? ⟨(g + 1), 10, none⟩ = some (.slice none 0 0) ∧ W.cell? ⟨(g + 1), 11, none⟩ = some (.slice none 0 0))
theorem SmSt.reads {w W : World} {g : Nat} {m : Mg} (h : SmSt w W g m) (hn : m.names = .slice none 0 0) (hq : m.qids = .slice none 0 0) : SmR W g m m.cs m.ds := by
  obtain ⟨h1, h2, _⟩ := h
  refine ⟨⟨rng_of h1, rng_ds h1, ?_, ?_, ?_, ?_, ?_, ?_, ?_⟩, ⟨rng_of h2, rng_ds h2, ?_, ?_, ?_, ?_, ?_, ?_, ?_⟩⟩
  all_goals first
    | (rw [Lib.cell_of_heap h1]; simp only [← hn, ← hq]; rfl)
    | (rw [Lib.cell_of_heap h1, ← hn]; rfl)
    | (rw [Lib.cell_of_heap h1, ← hq]; rfl)
    | (rw [Lib.cell_of_heap h1]; rfl)
    | (rw [Lib.cell_of_heap h2, ← hn]; rfl)
    | (rw [Lib.cell_of_heap h2, ← hq]; rfl)
    | (rw [Lib.cell_of_heap h2]; rfl)
set_option maxRecDepth 100000 in
set_option maxHeartbeats 8000000 in
theorem same_self (m : Mg) (hn : m.names = .slice none 0 0) (hq : m.qids = .slice none 0 0) (w : World) : Calls Tryz.prog 80 #[.agg m.cs.toArray, .agg m.cs.toArray] w fun e w' => e = .returned (.bool true) ∧ Below w.heap.size w w' := by
  have hok : m.ok := ⟨⟨_, _, _, hn⟩, ⟨_, _, _, hq⟩⟩
  have HS0 := Lib.hid (show SmSt w ((w.alloc (mgobj m)).alloc (mgobj m)) w.heap.size m from ⟨(Lib.alloc_old _ _ _ (by simp)).trans (heap_alloc_new w _), by
    have := heap_alloc_new (w.alloc (mgobj m)) (mgobj m)
    rw [show (w.alloc (mgobj m)).heap.size = w.heap.size + 1 from by simp] at this
    exact this, bnext (alloc_below w _) (alloc_below _ _)⟩)
  have HN := Lib.hid (fun (W : World) => nums_any m hok W)
  have HX := Lib.hid (fun (W : World) => texts_any m hok W)
  have HE1 := eqns_self m
  have HE2 := eqts_self m
  have HE3 := eqds_self m
  have HQ := Lib.hid eqq_nil
  have HT := Lib.hid eqs_nil
  have HR := Lib.hid (fun (W : World) (h : SmSt w W w.heap.size m) => h.reads hn hq)
  have hsz : (Tryz.prog.info? 48).map (·.size) = some m.cs.length := by kernel_rfl
  have hu := Tryz.underlying48
  have hud := Tryz.underlying46
  have hsd : (Tryz.prog.info? 46).map (·.size) = some m.ds.length := by kernel_rfl
  have HU := Lib.hid (And.intro hu (And.intro hud (And.intro hsz hsd)))
  clear hu hud hsz hsd
  unfold mgobj at HS0
  clear hok hn hq
  generalize hcs : m.cs = cs at *
  generalize hds : m.ds = ds at *
  generalize hns : m.ns = ns at *
  generalize hts : m.ts = ts at *
  clear hcs hds hns hts
  go_enter Tryz.func80, Tryz.ntmps80
  go_wp2_with fail
  generalize World.alloc _ _ = w1 at *
  generalize w.heap.size = g at *
  have HS1 := Lib.hid (HS0.out.next (below_drew1 w1))
  refine wp_region_held_drew (S := (fun W' => (W'.rangeAt g 0 cs ∧ W'.rangeAt g 22 ds ∧ W'.cell? ⟨g, 37, none⟩ = some (.int .i64 m.term) ∧ W'.cell? ⟨g, 35, none⟩ = some (.int .i64 m.err) ∧ W'.cell? ⟨g, 12, none⟩ = some (.int .i64 m.q0) ∧ W'.cell? ⟨g, 13, none⟩ = some (.int .i64 m.q1) ∧ W'.cell? ⟨g, 14, none⟩ = some (.int .i64 m.q2) ∧ W'.cell? ⟨g, 10, none⟩ = some (.slice none 0 0) ∧ W'.cell? ⟨g, 11, none⟩ = some (.slice none 0 0)) ∧ (W'.rangeAt (g + 1) 0 cs ∧ W'.rangeAt (g + 1) 22 ds ∧ W'.cell? ⟨(g + 1), 37, none⟩ = some (.int .i64 m.term) ∧ W'.cell? ⟨(g + 1), 35, none⟩ = some (.int .i64 m.err) ∧ W'.cell? ⟨(g + 1), 12, none⟩ = some (.int .i64 m.q0) ∧ W'.cell? ⟨(g + 1), 13, none⟩ = some (.int .i64 m.q1) ∧ W'.cell? ⟨(g + 1), 14, none⟩ = some (.int .i64 m.q2) ∧ W'.cell? ⟨(g + 1), 10, none⟩ = some (.slice none 0 0) ∧ W'.cell? ⟨(g + 1), 11, none⟩ = some (.slice none 0 0)))) (by kernel_rfl) (HR.out _ HS1.out) (fun hHeld => ?_)
  refine wpAnyH_takeD (i := 0) (d := 7) (v := ?v0) rfl rfl (by kernel_rfl) (by kernel_rfl) (by kernel_rfl) (fun _ _ _ h => h) (Or.inl ⟨by rfl, ?yv0⟩) (by assumption) ?rv0
  case yv0 => (intro w hSw; (try dsimp only at hSw); go_simp <;> with_reducible rfl)
  try simp only [Act.put, List.setIfInBounds_toArray, List.set_cons_zero, List.set_cons_succ]
  refine wpAnyH_takeD (i := 1) (d := 8) (v := .agg cs.toArray) rfl rfl (by kernel_rfl) (by kernel_rfl) (by kernel_rfl) (fun _ _ _ h => h) (yieldsIf_load_mid (by rfl) 48 (.tmp 2) rfl g 0 (by rfl) cs _ (fun _ h => h.1.1) HU.out.1 rfl HU.out.2.2.1) (by assumption) ?_
  try simp only [Act.put, List.setIfInBounds_toArray, List.set_cons_zero, List.set_cons_succ]
  refine wpAnyH_takeD (i := 3) (d := 10) (v := ?v3) rfl rfl (by kernel_rfl) (by kernel_rfl) (by kernel_rfl) (fun _ _ _ h => h) (Or.inl ⟨by rfl, ?yv3⟩) (by assumption) ?rv3
  case yv3 => (intro w hSw; (try dsimp only at hSw); go_simp <;> with_reducible rfl)
  try simp only [Act.put, List.setIfInBounds_toArray, List.set_cons_zero, List.set_cons_succ]
  refine wpAnyH_takeD (i := 4) (d := 11) (v := .agg cs.toArray) rfl rfl (by kernel_rfl) (by kernel_rfl) (by kernel_rfl) (fun _ _ _ h => h) (yieldsIf_load_mid (by rfl) 48 (.tmp 3) rfl (g + 1) 0 (by rfl) cs _ (fun _ h => h.2.1) HU.out.1 rfl HU.out.2.2.1) (by assumption) ?_
  try simp only [Act.put, List.setIfInBounds_toArray, List.set_cons_zero, List.set_cons_succ]
  refine wpAnyH_ready (rs := [2]) (by kernel_rfl) (by simp) ?_
  refine AllReadyH.cons rfl (fun K hK => ?_) AllReadyH.nil
  go_simp
  go_wp2_with (go_at_call 132; (with_reducible refine (HN.out _).mono ?_); rintro e v2 ⟨rfl, b2⟩)
  have HS2 := Lib.hid (HS1.out.next b2)
  clear b2
  refine hK.out _ _ (HR.out _ HS2.out) (fun hHeld => ?_)
  clear hK K
  try simp only [Act.put, List.setIfInBounds_toArray, List.set_cons_zero, List.set_cons_succ]
  refine wpAnyH_ready (rs := [5]) (by kernel_rfl) (by simp) ?_
  refine AllReadyH.cons rfl (fun K hK => ?_) AllReadyH.nil
  go_simp
  go_wp2_with (go_at_call 132; (with_reducible refine (HN.out _).mono ?_); rintro e v3 ⟨rfl, b3⟩)
  have HS3 := Lib.hid (HS2.out.next b3)
  clear b3
  refine hK.out _ _ (HR.out _ HS3.out) (fun hHeld => ?_)
  clear hK K
  try simp only [Act.put, List.setIfInBounds_toArray, List.set_cons_zero, List.set_cons_succ]
  refine wpAnyH_takeD (i := 6) (d := 13) (v := ?v6) rfl rfl (by kernel_rfl) (by kernel_rfl) (by kernel_rfl) (fun _ _ _ h => h) (Or.inl ⟨by rfl, ?yv6⟩) (by assumption) ?rv6
  case yv6 => (intro w hSw; (try dsimp only at hSw); go_simp <;> with_reducible rfl)
  try simp only [Act.put, List.setIfInBounds_toArray, List.set_cons_zero, List.set_cons_succ]
  refine wpAnyH_takeD (i := 7) (d := 14) (v := ?v7) rfl rfl (by kernel_rfl) (by kernel_rfl) (by kernel_rfl) (fun _ _ _ h => h) (Or.inl ⟨by rfl, ?yv7⟩) (by assumption) ?rv7
  case yv7 => (intro w hSw; (try dsimp only at hSw); go_simp <;> with_reducible rfl)
  try simp only [Act.put, List.setIfInBounds_toArray, List.set_cons_zero, List.set_cons_succ]
  refine wpAnyH_takeD (i := 8) (d := 15) (v := ?v8) rfl rfl (by kernel_rfl) (by kernel_rfl) (by kernel_rfl) (fun _ _ _ h => h) (Or.inl ⟨by rfl, ?yv8⟩) (by assumption) ?rv8
  case yv8 => (intro w hSw; (try dsimp only at hSw); go_simp <;> with_reducible rfl)
  try simp only [Act.put, List.setIfInBounds_toArray, List.set_cons_zero, List.set_cons_succ]
  refine wpAnyH_takeD (i := 9) (d := 16) (v := .agg cs.toArray) rfl rfl (by kernel_rfl) (by kernel_rfl) (by kernel_rfl) (fun _ _ _ h => h) (yieldsIf_load_mid (by rfl) 48 (.tmp 2) rfl g 0 (by rfl) cs _ (fun _ h => h.1.1) HU.out.1 rfl HU.out.2.2.1) (by assumption) ?_
  try simp only [Act.put, List.setIfInBounds_toArray, List.set_cons_zero, List.set_cons_succ]
  refine wpAnyH_takeD (i := 11) (d := 18) (v := ?v11) rfl rfl (by kernel_rfl) (by kernel_rfl) (by kernel_rfl) (fun _ _ _ h => h) (Or.inl ⟨by rfl, ?yv11⟩) (by assumption) ?rv11
  case yv11 => (intro w hSw; (try dsimp only at hSw); go_simp <;> with_reducible rfl)
  try simp only [Act.put, List.setIfInBounds_toArray, List.set_cons_zero, List.set_cons_succ]
  refine wpAnyH_takeD (i := 12) (d := 19) (v := .agg cs.toArray) rfl rfl (by kernel_rfl) (by kernel_rfl) (by kernel_rfl) (fun _ _ _ h => h) (yieldsIf_load_mid (by rfl) 48 (.tmp 3) rfl (g + 1) 0 (by rfl) cs _ (fun _ h => h.2.1) HU.out.1 rfl HU.out.2.2.1) (by assumption) ?_
  try simp only [Act.put, List.setIfInBounds_toArray, List.set_cons_zero, List.set_cons_succ]
  refine wpAnyH_ready (rs := [10]) (by kernel_rfl) (by simp) ?_
  refine AllReadyH.cons rfl (fun K hK => ?_) AllReadyH.nil
  go_simp
  go_wp2_with (go_at_call 133; (with_reducible refine (HX.out _).mono ?_); rintro e v4 ⟨rfl, b4⟩)
  have HS4 := Lib.hid (HS3.out.next b4)
  clear b4
  refine hK.out _ _ (HR.out _ HS4.out) (fun hHeld => ?_)
  clear hK K
  try simp only [Act.put, List.setIfInBounds_toArray, List.set_cons_zero, List.set_cons_succ]
  refine wpAnyH_ready (rs := [13]) (by kernel_rfl) (by simp) ?_
  refine AllReadyH.cons rfl (fun K hK => ?_) AllReadyH.nil
  go_simp
  go_wp2_with (go_at_call 133; (with_reducible refine (HX.out _).mono ?_); rintro e v5 ⟨rfl, b5⟩)
  have HS5 := Lib.hid (HS4.out.next b5)
  clear b5
  refine hK.out _ _ (HR.out _ HS5.out) (fun hHeld => ?_)
  clear hK K
  try simp only [Act.put, List.setIfInBounds_toArray, List.set_cons_zero, List.set_cons_succ]
  refine wpAnyH_takeD (i := 14) (d := 21) (v := ?v14) rfl rfl (by kernel_rfl) (by kernel_rfl) (by kernel_rfl) (fun _ _ _ h => h) (Or.inl ⟨by rfl, ?yv14⟩) (by assumption) ?rv14
  case yv14 => (intro w hSw; (try dsimp only at hSw); go_simp <;> with_reducible rfl)
  try simp only [Act.put, List.setIfInBounds_toArray, List.set_cons_zero, List.set_cons_succ]
  refine wpAnyH_takeD (i := 15) (d := 22) (v := ?v15) rfl rfl (by kernel_rfl) (by kernel_rfl) (by kernel_rfl) (fun _ _ _ h => h) (Or.inl ⟨by rfl, ?yv15⟩) (by assumption) ?rv15
  case yv15 => (intro w hSw; (try dsimp only at hSw); go_simp <;> with_reducible rfl)
  try simp only [Act.put, List.setIfInBounds_toArray, List.set_cons_zero, List.set_cons_succ]
  refine wpAnyH_takeD (i := 16) (d := 23) (v := ?v16) rfl rfl (by kernel_rfl) (by kernel_rfl) (by kernel_rfl) (fun _ _ _ h => h) (Or.inl ⟨by rfl, ?yv16⟩) (by assumption) ?rv16
  case yv16 => (intro w hSw; (try dsimp only at hSw); go_simp <;> with_reducible rfl)
  try simp only [Act.put, List.setIfInBounds_toArray, List.set_cons_zero, List.set_cons_succ]
  refine wpAnyH_takeD (i := 17) (d := 24) (v := ?v17) rfl rfl (by kernel_rfl) (by kernel_rfl) (by kernel_rfl) (fun _ _ _ h => h) (Or.inl ⟨by rfl, ?yv17⟩) (by assumption) ?rv17
  case yv17 => (intro w hSw; (try dsimp only at hSw); go_simp <;> with_reducible rfl)
  try simp only [Act.put, List.setIfInBounds_toArray, List.set_cons_zero, List.set_cons_succ]
  refine wpAnyH_takeD (i := 18) (d := 25) (v := ?v18) rfl rfl (by kernel_rfl) (by kernel_rfl) (by kernel_rfl) (fun _ _ _ h => h) (Or.inl ⟨by rfl, ?yv18⟩) (by assumption) ?rv18
  case yv18 => (intro w hSw; (try dsimp only at hSw); go_simp <;> with_reducible rfl)
  try simp only [Act.put, List.setIfInBounds_toArray, List.set_cons_zero, List.set_cons_succ]
  refine wpAnyH_takeD (i := 19) (d := 26) (v := ?v19) rfl rfl (by kernel_rfl) (by kernel_rfl) (by kernel_rfl) (fun _ _ _ h => h) (Or.inl ⟨by rfl, ?yv19⟩) (by assumption) ?rv19
  case yv19 => (intro w hSw; (try dsimp only at hSw); go_simp <;> with_reducible rfl)
  try simp only [Act.put, List.setIfInBounds_toArray, List.set_cons_zero, List.set_cons_succ]
  refine wpAnyH_takeD (i := 20) (d := 27) (v := ?v20) rfl rfl (by kernel_rfl) (by kernel_rfl) (by kernel_rfl) (fun _ _ _ h => h) (Or.inl ⟨by rfl, ?yv20⟩) (by assumption) ?rv20
  case yv20 => (intro w hSw; (try dsimp only at hSw); go_simp <;> with_reducible rfl)
  try simp only [Act.put, List.setIfInBounds_toArray, List.set_cons_zero, List.set_cons_succ]
  refine wpAnyH_takeD (i := 21) (d := 28) (v := ?v21) rfl rfl (by kernel_rfl) (by kernel_rfl) (by kernel_rfl) (fun _ _ _ h => h) (Or.inl ⟨by rfl, ?yv21⟩) (by assumption) ?rv21
  case yv21 => (intro w hSw; (try dsimp only at hSw); go_simp <;> with_reducible rfl)
  try simp only [Act.put, List.setIfInBounds_toArray, List.set_cons_zero, List.set_cons_succ]
  refine wpAnyH_takeD (i := 22) (d := 29) (v := ?v22) rfl rfl (by kernel_rfl) (by kernel_rfl) (by kernel_rfl) (fun _ _ _ h => h) (Or.inl ⟨by rfl, ?yv22⟩) (by assumption) ?rv22
  case yv22 => (intro w hSw; (try dsimp only at hSw); go_simp <;> with_reducible rfl)
  try simp only [Act.put, List.setIfInBounds_toArray, List.set_cons_zero, List.set_cons_succ]
  refine wpAnyH_takeD (i := 23) (d := 30) (v := ?v23) rfl rfl (by kernel_rfl) (by kernel_rfl) (by kernel_rfl) (fun _ _ _ h => h) (Or.inl ⟨by rfl, ?yv23⟩) (by assumption) ?rv23
  case yv23 => (intro w hSw; (try dsimp only at hSw); go_simp <;> with_reducible rfl)
  try simp only [Act.put, List.setIfInBounds_toArray, List.set_cons_zero, List.set_cons_succ]
  refine wpAnyH_takeD (i := 24) (d := 31) (v := ?v24) rfl rfl (by kernel_rfl) (by kernel_rfl) (by kernel_rfl) (fun _ _ _ h => h) (Or.inl ⟨by rfl, ?yv24⟩) (by assumption) ?rv24
  case yv24 => (intro w hSw; (try dsimp only at hSw); go_simp <;> with_reducible rfl)
  try simp only [Act.put, List.setIfInBounds_toArray, List.set_cons_zero, List.set_cons_succ]
  refine wpAnyH_takeD (i := 25) (d := 32) (v := ?v25) rfl rfl (by kernel_rfl) (by kernel_rfl) (by kernel_rfl) (fun _ _ _ h => h) (Or.inl ⟨by rfl, ?yv25⟩) (by assumption) ?rv25
  case yv25 => (intro w hSw; (try dsimp only at hSw); go_simp <;> with_reducible rfl)
  try simp only [Act.put, List.setIfInBounds_toArray, List.set_cons_zero, List.set_cons_succ]
  refine wpAnyH_takeD (i := 26) (d := 33) (v := ?v26) rfl rfl (by kernel_rfl) (by kernel_rfl) (by kernel_rfl) (fun _ _ _ h => h) (Or.inl ⟨by rfl, ?yv26⟩) (by assumption) ?rv26
  case yv26 => (intro w hSw; (try dsimp only at hSw); go_simp <;> with_reducible rfl)
  try simp only [Act.put, List.setIfInBounds_toArray, List.set_cons_zero, List.set_cons_succ]
  refine wpAnyH_takeD (i := 27) (d := 34) (v := ?v27) rfl rfl (by kernel_rfl) (by kernel_rfl) (by kernel_rfl) (fun _ _ _ h => h) (Or.inl ⟨by rfl, ?yv27⟩) (by assumption) ?rv27
  case yv27 => (intro w hSw; (try dsimp only at hSw); go_simp <;> with_reducible rfl)
  try simp only [Act.put, List.setIfInBounds_toArray, List.set_cons_zero, List.set_cons_succ]
  refine wpAnyH_takeD (i := 28) (d := 35) (v := ?v28) rfl rfl (by kernel_rfl) (by kernel_rfl) (by kernel_rfl) (fun _ _ _ h => h) (Or.inl ⟨by rfl, ?yv28⟩) (by assumption) ?rv28
  case yv28 => (intro w hSw; (try dsimp only at hSw); go_simp <;> with_reducible rfl)
  try simp only [Act.put, List.setIfInBounds_toArray, List.set_cons_zero, List.set_cons_succ]
  refine wpAnyH_takeD (i := 29) (d := 36) (v := ?v29) rfl rfl (by kernel_rfl) (by kernel_rfl) (by kernel_rfl) (fun _ _ _ h => h) (Or.inl ⟨by rfl, ?yv29⟩) (by assumption) ?rv29
  case yv29 => (intro w hSw; (try dsimp only at hSw); go_simp <;> with_reducible rfl)
  try simp only [Act.put, List.setIfInBounds_toArray, List.set_cons_zero, List.set_cons_succ]
  refine wpAnyH_takeD (i := 30) (d := 37) (v := ?v30) rfl rfl (by kernel_rfl) (by kernel_rfl) (by kernel_rfl) (fun _ _ _ h => h) (Or.inl ⟨by rfl, ?yv30⟩) (by assumption) ?rv30
  case yv30 => (intro w hSw; (try dsimp only at hSw); go_simp <;> with_reducible rfl)
  try simp only [Act.put, List.setIfInBounds_toArray, List.set_cons_zero, List.set_cons_succ]
  refine wpAnyH_takeD (i := 31) (d := 38) (v := ?v31) rfl rfl (by kernel_rfl) (by kernel_rfl) (by kernel_rfl) (fun _ _ _ h => h) (Or.inl ⟨by rfl, ?yv31⟩) (by assumption) ?rv31
  case yv31 => (intro w hSw; (try dsimp only at hSw); go_simp <;> with_reducible rfl)
  try simp only [Act.put, List.setIfInBounds_toArray, List.set_cons_zero, List.set_cons_succ]
  refine wpAnyH_takeD (i := 32) (d := 39) (v := ?v32) rfl rfl (by kernel_rfl) (by kernel_rfl) (by kernel_rfl) (fun _ _ _ h => h) (Or.inl ⟨by rfl, ?yv32⟩) (by assumption) ?rv32
  case yv32 => (intro w hSw; (try dsimp only at hSw); go_simp <;> with_reducible rfl)
  try simp only [Act.put, List.setIfInBounds_toArray, List.set_cons_zero, List.set_cons_succ]
  refine wpAnyH_takeD (i := 33) (d := 40) (v := ?v33) rfl rfl (by kernel_rfl) (by kernel_rfl) (by kernel_rfl) (fun _ _ _ h => h) (Or.inl ⟨by rfl, ?yv33⟩) (by assumption) ?rv33
  case yv33 => (intro w hSw; (try dsimp only at hSw); go_simp <;> with_reducible rfl)
  try simp only [Act.put, List.setIfInBounds_toArray, List.set_cons_zero, List.set_cons_succ]
  refine wpAnyH_takeD (i := 34) (d := 41) (v := ?v34) rfl rfl (by kernel_rfl) (by kernel_rfl) (by kernel_rfl) (fun _ _ _ h => h) (Or.inl ⟨by rfl, ?yv34⟩) (by assumption) ?rv34
  case yv34 => (intro w hSw; (try dsimp only at hSw); go_simp <;> with_reducible rfl)
  try simp only [Act.put, List.setIfInBounds_toArray, List.set_cons_zero, List.set_cons_succ]
  refine wpAnyH_takeD (i := 35) (d := 42) (v := ?v35) rfl rfl (by kernel_rfl) (by kernel_rfl) (by kernel_rfl) (fun _ _ _ h => h) (Or.inl ⟨by rfl, ?yv35⟩) (by assumption) ?rv35
  case yv35 => (intro w hSw; (try dsimp only at hSw); go_simp <;> with_reducible rfl)
  try simp only [Act.put, List.setIfInBounds_toArray, List.set_cons_zero, List.set_cons_succ]
  refine wpAnyH_takeD (i := 36) (d := 43) (v := ?v36) rfl rfl (by kernel_rfl) (by kernel_rfl) (by kernel_rfl) (fun _ _ _ h => h) (Or.inl ⟨by rfl, ?yv36⟩) (by assumption) ?rv36
  case yv36 => (intro w hSw; (try dsimp only at hSw); go_simp <;> with_reducible rfl)
  try simp only [Act.put, List.setIfInBounds_toArray, List.set_cons_zero, List.set_cons_succ]
  refine wpAnyH_takeD (i := 37) (d := 44) (v := ?v37) rfl rfl (by kernel_rfl) (by kernel_rfl) (by kernel_rfl) (fun _ _ _ h => h) (Or.inl ⟨by rfl, ?yv37⟩) (by assumption) ?rv37
  case yv37 => (intro w hSw; (try dsimp only at hSw); go_simp <;> with_reducible rfl)
  try simp only [Act.put, List.setIfInBounds_toArray, List.set_cons_zero, List.set_cons_succ]
  refine wpAnyH_takeD (i := 38) (d := 45) (v := ?v38) rfl rfl (by kernel_rfl) (by kernel_rfl) (by kernel_rfl) (fun _ _ _ h => h) (Or.inl ⟨by rfl, ?yv38⟩) (by assumption) ?rv38
  case yv38 => (intro w hSw; (try dsimp only at hSw); go_simp <;> with_reducible rfl)
  try simp only [Act.put, List.setIfInBounds_toArray, List.set_cons_zero, List.set_cons_succ]
  refine wpAnyH_takeD (i := 39) (d := 46) (v := .agg ds.toArray) rfl rfl (by kernel_rfl) (by kernel_rfl) (by kernel_rfl) (fun _ _ _ h => h) (yieldsIf_load_mid (by rfl) 46 (.tmp 45) rfl g 22 (by rfl) ds _ (fun _ h => h.1.2.1) HU.out.2.1 rfl HU.out.2.2.2) (by assumption) ?_
  try simp only [Act.put, List.setIfInBounds_toArray, List.set_cons_zero, List.set_cons_succ]
  refine wpAnyH_takeD (i := 40) (d := 47) (v := ?v40) rfl rfl (by kernel_rfl) (by kernel_rfl) (by kernel_rfl) (fun _ _ _ h => h) (Or.inl ⟨by rfl, ?yv40⟩) (by assumption) ?rv40
  case yv40 => (intro w hSw; (try dsimp only at hSw); go_simp <;> with_reducible rfl)
  try simp only [Act.put, List.setIfInBounds_toArray, List.set_cons_zero, List.set_cons_succ]
  refine wpAnyH_takeD (i := 41) (d := 48) (v := .agg ds.toArray) rfl rfl (by kernel_rfl) (by kernel_rfl) (by kernel_rfl) (fun _ _ _ h => h) (yieldsIf_load_mid (by rfl) 46 (.tmp 47) rfl (g + 1) 22 (by rfl) ds _ (fun _ h => h.2.2.1) HU.out.2.1 rfl HU.out.2.2.2) (by assumption) ?_
  try simp only [Act.put, List.setIfInBounds_toArray, List.set_cons_zero, List.set_cons_succ]
  refine wpAnyH_takeD (i := 42) (d := 49) (v := ?v42) rfl rfl (by kernel_rfl) (by kernel_rfl) (by kernel_rfl) (fun _ _ _ h => h) (Or.inl ⟨by rfl, ?yv42⟩) (by assumption) ?rv42
  case yv42 => (intro w hSw; (try dsimp only at hSw); go_simp <;> with_reducible rfl)
  try simp only [Act.put, List.setIfInBounds_toArray, List.set_cons_zero, List.set_cons_succ]
  refine wpAnyH_takeD (i := 43) (d := 50) (v := ?v43) rfl rfl (by kernel_rfl) (by kernel_rfl) (by kernel_rfl) (fun _ _ _ h => h) (Or.inl ⟨by rfl, ?yv43⟩) (by assumption) ?rv43
  case yv43 => (intro w hSw; (try dsimp only at hSw); go_simp <;> with_reducible rfl)
  try simp only [Act.put, List.setIfInBounds_toArray, List.set_cons_zero, List.set_cons_succ]
  refine wpAnyH_takeD (i := 44) (d := 51) (v := ?v44) rfl rfl (by kernel_rfl) (by kernel_rfl) (by kernel_rfl) (fun _ _ _ h => h) (Or.inl ⟨by rfl, ?yv44⟩) (by assumption) ?rv44
  case yv44 => (intro w hSw; (try dsimp only at hSw); go_simp <;> with_reducible rfl)
  try simp only [Act.put, List.setIfInBounds_toArray, List.set_cons_zero, List.set_cons_succ]
  refine wpAnyH_takeD (i := 45) (d := 52) (v := ?v45) rfl rfl (by kernel_rfl) (by kernel_rfl) (by kernel_rfl) (fun _ _ _ h => h) (Or.inl ⟨by rfl, ?yv45⟩) (by assumption) ?rv45
  case yv45 => (intro w hSw; (try dsimp only at hSw); go_simp <;> with_reducible rfl)
  try simp only [Act.put, List.setIfInBounds_toArray, List.set_cons_zero, List.set_cons_succ]
  refine wpAnyH_takeD (i := 46) (d := 53) (v := ?v46) rfl rfl (by kernel_rfl) (by kernel_rfl) (by kernel_rfl) (fun _ _ _ h => h) (Or.inl ⟨by rfl, ?yv46⟩) (by assumption) ?rv46
  case yv46 => (intro w hSw; (try dsimp only at hSw); go_simp <;> with_reducible rfl)
  try simp only [Act.put, List.setIfInBounds_toArray, List.set_cons_zero, List.set_cons_succ]
  refine wpAnyH_takeD (i := 47) (d := 54) (v := ?v47) rfl rfl (by kernel_rfl) (by kernel_rfl) (by kernel_rfl) (fun _ _ _ h => h) (Or.inl ⟨by rfl, ?yv47⟩) (by assumption) ?rv47
  case yv47 => (intro w hSw; (try dsimp only at hSw); go_simp <;> with_reducible rfl)
  try simp only [Act.put, List.setIfInBounds_toArray, List.set_cons_zero, List.set_cons_succ]
  refine wpAnyH_takeD (i := 48) (d := 55) (v := ?v48) rfl rfl (by kernel_rfl) (by kernel_rfl) (by kernel_rfl) (fun _ _ _ h => h) (Or.inl ⟨by rfl, ?yv48⟩) (by assumption) ?rv48
  case yv48 => (intro w hSw; (try dsimp only at hSw); go_simp <;> with_reducible rfl)
  try simp only [Act.put, List.setIfInBounds_toArray, List.set_cons_zero, List.set_cons_succ]
  refine wpAnyH_ready (rs := [49]) (by kernel_rfl) (by simp) ?_
  refine AllReadyH.cons rfl (fun K hK => ?_) AllReadyH.nil
  go_simp
  go_wp2_with (go_at_call 134; (with_reducible refine (HT.out _).mono ?_); rintro e vv ⟨rfl, rfl⟩)
  refine hK.out _ _ (HR.out _ HS5.out) (fun hHeld => ?_)
  clear hK K
  try simp only [Act.put, List.setIfInBounds_toArray, List.set_cons_zero, List.set_cons_succ]
  refine wpAnyH_takeD (i := 50) (d := 57) (v := ?v50) rfl rfl (by kernel_rfl) (by kernel_rfl) (by kernel_rfl) (fun _ _ _ h => h) (Or.inl ⟨by rfl, ?yv50⟩) (by assumption) ?rv50
  case yv50 => (intro w hSw; (try dsimp only at hSw); go_simp <;> with_reducible rfl)
  try simp only [Act.put, List.setIfInBounds_toArray, List.set_cons_zero, List.set_cons_succ]
  refine wpAnyH_takeD (i := 51) (d := 58) (v := ?v51) rfl rfl (by kernel_rfl) (by kernel_rfl) (by kernel_rfl) (fun _ _ _ h => h) (Or.inl ⟨by rfl, ?yv51⟩) (by assumption) ?rv51
  case yv51 => (intro w hSw; (try dsimp only at hSw); go_simp <;> with_reducible rfl)
  try simp only [Act.put, List.setIfInBounds_toArray, List.set_cons_zero, List.set_cons_succ]
  refine wpAnyH_takeD (i := 52) (d := 59) (v := ?v52) rfl rfl (by kernel_rfl) (by kernel_rfl) (by kernel_rfl) (fun _ _ _ h => h) (Or.inl ⟨by rfl, ?yv52⟩) (by assumption) ?rv52
  case yv52 => (intro w hSw; (try dsimp only at hSw); go_simp <;> with_reducible rfl)
  try simp only [Act.put, List.setIfInBounds_toArray, List.set_cons_zero, List.set_cons_succ]
  refine wpAnyH_takeD (i := 53) (d := 60) (v := ?v53) rfl rfl (by kernel_rfl) (by kernel_rfl) (by kernel_rfl) (fun _ _ _ h => h) (Or.inl ⟨by rfl, ?yv53⟩) (by assumption) ?rv53
  case yv53 => (intro w hSw; (try dsimp only at hSw); go_simp <;> with_reducible rfl)
  try simp only [Act.put, List.setIfInBounds_toArray, List.set_cons_zero, List.set_cons_succ]
  refine wpAnyH_takeD (i := 54) (d := 61) (v := ?v54) rfl rfl (by kernel_rfl) (by kernel_rfl) (by kernel_rfl) (fun _ _ _ h => h) (Or.inl ⟨by rfl, ?yv54⟩) (by assumption) ?rv54
  case yv54 => (intro w hSw; (try dsimp only at hSw); go_simp <;> with_reducible rfl)
  try simp only [Act.put, List.setIfInBounds_toArray, List.set_cons_zero, List.set_cons_succ]
  refine wpAnyH_takeD (i := 55) (d := 62) (v := ?v55) rfl rfl (by kernel_rfl) (by kernel_rfl) (by kernel_rfl) (fun _ _ _ h => h) (Or.inl ⟨by rfl, ?yv55⟩) (by assumption) ?rv55
  case yv55 => (intro w hSw; (try dsimp only at hSw); go_simp <;> with_reducible rfl)
  try simp only [Act.put, List.setIfInBounds_toArray, List.set_cons_zero, List.set_cons_succ]
  refine wpAnyH_ready (rs := [56]) (by kernel_rfl) (by simp) ?_
  refine AllReadyH.cons rfl (fun K hK => ?_) AllReadyH.nil
  go_simp
  go_wp2_with (go_at_call 135; (with_reducible refine (HQ.out _).mono ?_); rintro e vv ⟨rfl, rfl⟩)
  refine hK.out _ _ (HR.out _ HS5.out) (fun hHeld => ?_)
  clear hK K
  try simp only [Act.put, List.setIfInBounds_toArray, List.set_cons_zero, List.set_cons_succ]
  refine wpAnyH_takeD (i := 57) (d := 64) (v := ?v57) rfl rfl (by kernel_rfl) (by kernel_rfl) (by kernel_rfl) (fun _ _ _ h => h) (Or.inl ⟨by rfl, ?yv57⟩) (by assumption) ?rv57
  case yv57 => (intro w hSw; (try dsimp only at hSw); go_simp <;> with_reducible rfl)
  try simp only [Act.put, List.setIfInBounds_toArray, List.set_cons_zero, List.set_cons_succ]
  refine wpAnyH_takeD (i := 58) (d := 4) (v := ?v58) rfl rfl (by kernel_rfl) (by kernel_rfl) (by kernel_rfl) (fun _ _ _ h => h) (Or.inl ⟨by rfl, ?yv58⟩) (by assumption) ?rv58
  case yv58 => (intro w hSw; (try dsimp only at hSw); go_simp <;> with_reducible rfl)
  try simp only [Act.put, List.setIfInBounds_toArray, List.set_cons_zero, List.set_cons_succ]
  refine wpAnyH_done (by kernel_rfl) ?_ _
  go_wp2_with fail
  go_ret
  exact ⟨rfl, HS5.out.2.2⟩
end Go.Proofs.YtfibaopngpfmjaaGreatDoor
