/- A TClunk that is started and read back. Conditions: those that each theorem names. -/
import Derived.Test.YtfibaopngpfmjaaGreatDoorRzB5
import Derived.Test.YtfibaopngpfmjaaGreatDoorRzA1
import Derived.Great.Walk
import Derived.Test.YtfibaopngpfmjaaGreatDoorRzB4
set_option linter.unusedVariables false
set_option linter.unusedSimpArgs false
set_option maxRecDepth 100000
set_option maxHeartbeats 8000000
namespace Go.Proofs.YtfibaopngpfmjaaGreatDoor
open Go.RowKit Go.Proofs
/-- The state of Start: the boxes of the client and of the message, the place of the result. -/
def StSt (w W : World) (A0 : Array Value) : Prop :=
  W.heap[w.heap.size]? = some (.cells #[.bool true, .int .i64 0, .string (T []), .slice none 0 0, .slice none 0 0, .string (T [])] 41 (0, 0)) ∧ W.heap[w.heap.size + 1]? = some (.cells A0 48 (0, 0)) ∧ W.heap[w.heap.size + 1 + 1]? = some (.cells #[.bool false, .int .i64 0, .string (T []), .slice none 0 0, .slice none 0 0, .string (T [])] 41 (0, 0)) ∧ Below w.heap.size w W
theorem StSt.next {w W W' : World} {A0 : Array Value} (h : StSt w W A0) (hb : Below W.heap.size W W') : StSt w W' A0 :=
  ⟨(hb.block _ (row_ltP h.1)).trans h.1, (hb.block _ (row_ltP h.2.1)).trans h.2.1, (hb.block _ (row_ltP h.2.2.1)).trans h.2.2.1, bnext h.2.2.2 hb⟩
/-- A write into a later block. -/
theorem StSt.far {w W W' : World} {A0 : Array Value} {p : Nat} (h : StSt w W A0) (hg : W.grownBy W' (some p)) (hp : w.heap.size + 1 + 1 < p) : StSt w W' A0 :=
  ⟨(hg.block _ (row_ltP h.1) (fun e => by have := Option.some.inj e; omega)).trans h.1, (hg.block _ (row_ltP h.2.1) (fun e => by have := Option.some.inj e; omega)).trans h.2.1, (hg.block _ (row_ltP h.2.2.1) (fun e => by have := Option.some.inj e; omega)).trans h.2.2.1,
   h.2.2.2.trans ⟨hg.os, hg.tape, hg.output, hg.size, fun i hi => hg.block i (by have := h.2.2.2.size; omega) (fun e => by have := Option.some.inj e; omega)⟩⟩
theorem start_st (w : World) (m : Mg) : StSt w (((w.alloc (clobj (.slice none 0 0))).alloc (mgobj m)).alloc (.cells #[.bool false, .int .i64 0, .string (T []), .slice none 0 0, .slice none 0 0, .string (T [])] 41)) m.cs.toArray := by
  have h2 := heap_alloc_new (w.alloc (clobj (.slice none 0 0))) (mgobj m)
  rw [show (w.alloc (clobj (.slice none 0 0))).heap.size = w.heap.size + 1 from by simp] at h2
  have h3 := heap_alloc_new ((w.alloc (clobj (.slice none 0 0))).alloc (mgobj m)) (.cells #[.bool false, .int .i64 0, .string (T []), .slice none 0 0, .slice none 0 0, .string (T [])] 41)
  rw [show ((w.alloc (clobj (.slice none 0 0))).alloc (mgobj m)).heap.size = w.heap.size + 1 + 1 from by simp] at h3
  exact ⟨(Lib.alloc_old _ _ _ (by simp; omega)).trans ((Lib.alloc_old _ _ _ (by simp)).trans (heap_alloc_new w _)), (Lib.alloc_old _ _ _ (by simp)).trans h2, h3, bnext (bnext (alloc_below w _) (alloc_below _ _)) (alloc_below _ _)⟩
theorem st_owned {w W W' : World} {A0 : Array Value} {o : Obj} {b n : Nat} {xs : List Value} (h : StSt w W A0) (ho : W.ownsRow w.heap.size 82 40 (.slice (some ⟨b, 0, none⟩) 0 0) n xs)
    (hg : (W.alloc o).grownBy W' (Value.slice (some ⟨b, 0, none⟩) 0 0).ownBlock) : StSt w W' A0 ∧ ∀ (p : Nat) (cs : Array Value) (t : TypeId) (fr : Nat × Nat), 82 ≠ t → W.heap[p]? = some (.cells cs t fr) → W'.heap[p]? = some (.cells cs t fr) := by
  have hal := alloc_below W o
  have hk : ∀ (p : Nat) (cs : Array Value) (t : TypeId) (fr : Nat × Nat), 82 ≠ t → W.heap[p]? = some (.cells cs t fr) → W'.heap[p]? = some (.cells cs t fr) := by
    intro p cs t fr hne hp
    have hlt := row_ltP hp
    exact (hg.block p (by have := hal.size; omega) (fun e => own_neP ho hp hne e.symm)).trans ((hal.block p hlt).trans hp)
  have hb : w.heap.size ≤ b := by
    rcases ho with ⟨_, ⟨h1, _⟩ | ⟨b2, cp, cs, h1, h2, _⟩⟩
    · cases h1
    · cases h1; exact h2
  refine ⟨⟨hk _ _ _ _ (by decide) h.1, hk _ _ _ _ (by decide) h.2.1, hk _ _ _ _ (by decide) h.2.2.1, ?_⟩, hk⟩
  exact (bnext h.2.2.2 hal).trans ⟨hg.os, hg.tape, hg.output, hg.size, fun i hi => hg.block i (by have := (bnext h.2.2.2 hal).size; omega) (fun e => by have : i = b := Option.some.inj e; omega)⟩
theorem wpList_build_at {P : Program} {ops : Array Oper} {rest : List Oper} {o : Oper} {a : Act} {w : World} {Q : Exit → Act → World → Prop} (hg : o.guard = none) (t : TypeId) (parts : Array (Nat × Operand)) (ho : o.op = .build t parts) (cs : Array Value)
    (hb : P.built t (parts.map fun (i, x) => (i, a.eval x)).toList = some cs) (h : wpList P ops Q rest (a.put o.dst (.agg cs)) w) : wpList P ops Q (o :: rest) a w :=
  wpList_build hg t parts ho (by rw [hb]; rfl) (by rw [hb]; exact h)
theorem start_clunk (f : Int) (hf0 : 0 ≤ f) (hf1 : f ≤ 4294967294) (w : World) : Calls Tryz.prog 11 #[clv (.slice none 0 0), .agg (clm 0 f).cs.toArray] w fun e w' => ∃ ao n c, e = .returned (.tuple #[clv (.slice ao n c), .int .i64 1, .string (T (clbytes 1 f)), .int .i64 0]) ∧ Below w.heap.size w w' := by
  obtain ⟨i0, hi, hz0, hz1, hz2⟩ := info_parts (P := Tryz.prog) (e := 82) (z := .agg (mg0.cs ++ [Value.int .i64 0]).toArray) (size := 40) (bytes := 432) (by kernel_rfl)
  have HS0 := lh (start_st w (clm 0 f))
  have HOW := lh own_new
  have HRQ := lh request_clunk
  have HHV := lh hasv_nil
  have HCL := lh (fun W => clone_clunk 0 f W)
  have HFR := lh free_nil
  have HEN := lh (fun W => encoded_clunk 1 f (by omega) (by omega) hf0 hf1 W)
  have HK := lh (show ∀ (W : World) (g : Nat), (W.heap[g]? = some (mgobj (clm 0 f)) → W.cell? ⟨g, 1, none⟩ = some (.int .i64 0) ∧ W.frozen? ⟨g, 1, none⟩ = false ∧ (W.setCell ⟨g, 1, none⟩ (.int .i64 65535)).heap[g]? = some (mgobj (clm 65535 f))) ∧ (W.heap[g]? = some (mgobj (clm 65535 f)) → W.cell? ⟨g, 1, none⟩ = some (.int .i64 65535) ∧ W.frozen? ⟨g, 1, none⟩ = false ∧ (W.setCell ⟨g, 1, none⟩ (.int .i64 1)).heap[g]? = some (mgobj (clm 1 f))) ∧ (W.heap[g]? = some (mgobj (clm 1 f)) → W.cell? ⟨g, 1, none⟩ = some (.int .i64 1)) from fun W g => ⟨fun h => ⟨by rw [Lib.cell_of_heap h]; rfl, Lib.frozen_of_heap h _, mg_set h 1 _ rfl⟩, fun h => ⟨by rw [Lib.cell_of_heap h]; rfl, Lib.frozen_of_heap h _, mg_set h 1 _ rfl⟩, fun h => by rw [Lib.cell_of_heap h]; rfl⟩)
  have HC0 := lh (show ∀ W : World, StSt w W (clm 0 f).cs.toArray → W.cell? ⟨w.heap.size + 1, 0, none⟩ = some (.int .i64 120) from fun W h => by rw [Lib.cell_of_heap h.2.1]; rfl)
  have HU := lh (Tryz.underlying48)
  have HSZ := lh (mg_size (clm 0 f))
  have HSZ1 := lh (mg_size (clm 1 f))
  have HSY : RowKit.Hid (mg0.cs.toArray.size = (clm 0 f).cs.toArray.size) := lh rfl
  have HAL := lh (mg_all (clm 0 f) (clm_ok 0 f))
  have HBU : RowKit.Hid (Tryz.prog.built 82 [(0, .agg (clm 1 f).cs.toArray), (1, .int .i64 65535)] = some ((clm 1 f).cs ++ [Value.int .i64 65535]).toArray) := lh (by kernel_rfl)
  have HBS : RowKit.Hid (Tryz.prog.builtSlice 82 1 [(0, .agg ((clm 1 f).cs ++ [Value.int .i64 65535]).toArray)] = some ((clm 1 f).cs ++ [Value.int .i64 65535]).toArray) := lh (by kernel_rfl)
  have HL : RowKit.Hid (((clm 1 f).cs ++ [Value.int .i64 65535]).length = 40) := lh rfl
  have HL1 : RowKit.Hid (∀ u ∈ (clm 1 f).cs ++ [Value.int .i64 65535], u.oneCell' = true) := lh (by
    intro u hu
    rcases List.mem_append.1 hu with h | h
    · exact (clm 1 f).one (clm_ok 1 f) u h
    · simp only [List.mem_singleton] at h; subst h; rfl)
  unfold clv at *
  unfold clobj mgobj at *
  clear hf0 hf1
  generalize (clm 0 f).cs.toArray = A0 at *
  generalize (clm 65535 f).cs.toArray = A6 at *
  generalize (clm 1 f).cs = L1 at *
  generalize clbytes 1 f = cb at *
  go_enter Tryz.func11, Tryz.ntmps11
  go_upto_region 1 with fail
  generalize World.alloc _ _ = w1 at *
  obtain ⟨c0, c1, c2, c3, c4, c5⟩ := six_cells HS0.out.1
  go_wp2_with fail
  (with_reducible refine (HOW.out _).mono ?_); rintro e w2 ⟨b, rfl, ho2, b2⟩
  have HS2 := lh (HS0.out.next b2)
  have HO2 := lh (owns_lower ho2 HS0.out.2.2.2.size)
  clear b2 ho2 HS0 c0 c1 c2 c3 c4 c5
  go_upto_region 2 with fail
  have hb3 := alloc_below w2 (clobj (.slice (some ⟨b, 0, none⟩) 0 0))
  have HS3 := lh (HS2.out.next hb3)
  have HO3 := lh (own_next HO2.out hb3)
  have HD3 := lh (heap_alloc_new w2 (clobj (.slice (some ⟨b, 0, none⟩) 0 0)))
  have hgd : w.heap.size + 1 + 1 < w2.heap.size := row_ltP HS2.out.2.2.1
  clear HS2 HO2 hb3
  unfold clobj at *
  generalize World.alloc _ _ = w3 at *
  generalize w2.heap.size = d at *
  have k0 := HC0.out _ HS3.out
  obtain ⟨c0, c1, c2, c3, c4, c5⟩ := six_cells HS3.out.1
  go_wp2_with fail
  (with_reducible refine (HRQ.out _).mono ?_); rintro e w4 ⟨rfl, b4⟩
  have HS4 := lh (HS3.out.next b4)
  have HO4 := lh (own_next HO3.out b4)
  have HD4 := lh ((b4.block _ (row_ltP HD3.out)).trans HD3.out)
  clear b4 HS3 HO3 HD3 k0 c0 c1 c2 c3 c4 c5
  have k0 := HC0.out _ HS4.out
  obtain ⟨c0, c1, c2, c3, c4, c5⟩ := six_cells HS4.out.1
  go_wp2_with fail
  (with_reducible refine (HHV.out _).mono ?_); rintro e wx ⟨rfl, rfl⟩
  go_wp2_with (refine wpList_load_row rfl 48 _ rfl (w.heap.size + 1) rfl 48 A0 (0, 0) _ HS4.out.2.1 HU.out rfl HSZ.out ?_)
  (with_reducible refine (HCL.out _).mono ?_); rintro e w5 ⟨rfl, b5⟩
  have HS5 := lh (HS4.out.next b5)
  have HO5 := lh (own_next HO4.out b5)
  have HD5 := lh ((b5.block _ (row_ltP HD4.out)).trans HD4.out)
  clear b5 HS4 HO4 HD4 k0 c0 c1 c2 c3 c4 c5
  have hz5 := heap_alloc_new w5 (mgobj mg0)
  go_upto_region 12 with (refine wpList_store_row rfl 48 _ _ rfl w5.heap.size A0 rfl rfl 48 mg0.cs.toArray hz5 HSZ.out HSY.out HAL.out ?_)
  generalize hw6 : World.setRow _ _ _ = w6
  have b6 := (show Below w5.heap.size w5 w6 from by rw [← hw6]; exact below_setRow (alloc_below w5 _) (Nat.le_refl _) _)
  have K6 := lh (show w6.heap[w5.heap.size]? = some (.cells A0 48) from by rw [← hw6]; exact heap_setRow_same (heap_alloc_new w5 _))
  clear hw6 hz5
  have HS6 := lh (HS5.out.next b6)
  have HO6 := lh (own_next HO5.out b6)
  have HD6 := lh ((b6.block _ (row_ltP HD5.out)).trans HD5.out)
  have hdg : d < w5.heap.size := row_ltP HD5.out
  clear b6 HS5 HO5 HD5
  generalize w5.heap.size = g at *
  obtain ⟨x0, y0, z0⟩ := (HK.out w6 g).1 K6.out
  have K7 := lh z0
  have hg7 := grown_setG (below_grownBy (Below.refl _ w6) (some g)) 1 (.int .i64 65535)
  have HS7 := lh (HS6.out.far hg7 (by omega))
  have HO7 := lh (HO6.out.kept hg7 (Or.inr (own_neP HO6.out K6.out (by decide))))
  have HD7 := lh ((hg7.block d (row_ltP HD6.out) (fun e => by have := Option.some.inj e; omega)).trans HD6.out)
  clear z0 hg7 HS6 HO6 HD6 K6
  go_upto_region 13 with fail
  generalize World.setCell w6 ⟨g, 1, none⟩ (.int .i64 65535) = w7 at *
  clear x0 y0
  obtain ⟨c0, c1, c2, c3, c4, c5⟩ := six_cells HS7.out.1
  go_wp2_with fail
  (with_reducible refine (HFR.out _).mono ?_); rintro e w8 ⟨rfl, b8⟩
  have HS8 := lh (HS7.out.next b8)
  have HO8 := lh (own_next HO7.out b8)
  have HD8 := lh ((b8.block _ (row_ltP HD7.out)).trans HD7.out)
  have K8 := lh ((b8.block _ (row_ltP K7.out)).trans K7.out)
  clear b8 HS7 HO7 HD7 K7 c0 c1 c2 c3 c4 c5
  obtain ⟨x0, y0, z0⟩ := (HK.out w8 g).2.1 K8.out
  have K9 := lh z0
  have hg9 := grown_setG (below_grownBy (Below.refl _ w8) (some g)) 1 (.int .i64 1)
  have HS9 := lh (HS8.out.far hg9 (by omega))
  have HO9 := lh (HO8.out.kept hg9 (Or.inr (own_neP HO8.out K8.out (by decide))))
  have HD9 := lh ((hg9.block d (row_ltP HD8.out) (fun e => by have := Option.some.inj e; omega)).trans HD8.out)
  clear z0 hg9 HS8 HO8 HD8 K8
  go_upto_region 15 with fail
  generalize World.setCell w8 ⟨g, 1, none⟩ (.int .i64 1) = w9 at *
  clear x0 y0
  obtain ⟨c0, c1, c2, c3, c4, c5⟩ := six_cells HS9.out.1
  go_wp2_with (refine wpList_load_row rfl 48 _ rfl g rfl 48 L1.toArray (0, 0) _ K9.out HU.out rfl HSZ1.out ?_)
  (with_reducible refine (HEN.out _).mono ?_); rintro e wa ⟨rfl, ba⟩
  have HSa := lh (HS9.out.next ba)
  have HOa := lh (own_next HO9.out ba)
  have HDa := lh ((ba.block _ (row_ltP HD9.out)).trans HD9.out)
  have Ka := lh ((ba.block _ (row_ltP K9.out)).trans K9.out)
  clear ba HS9 HO9 HD9 K9 c0 c1 c2 c3 c4 c5
  go_upto_region 18 with fail
  obtain ⟨c0, c1, c2, c3, c4, c5⟩ := six_cells HDa.out
  obtain ⟨f0, f1, f2, f3, f4, f5⟩ := six_frozen HDa.out
  go_wp2_with (first | refine wpList_load_row rfl 48 _ rfl g rfl 48 L1.toArray (0, 0) _ Ka.out HU.out rfl HSZ1.out ?_ | refine wpList_build_at rfl 82 _ rfl (L1 ++ [Value.int .i64 65535]).toArray (by simp only [List.map_toArray, List.map_cons, List.map_nil]; exact HBU.out) ?_ | refine Great.wpList_buildSliceTo rfl 39 82 1 _ rfl wa.heap.size rfl _ rfl Tryz.underlying39 (L1 ++ [Value.int .i64 65535]).toArray (by simp only [List.map_toArray, List.map_cons, List.map_nil]; exact HBS.out) ?_ | (at_builtin; refine wpList_append_any _ rfl _ _ 39 rfl w.heap.size 82 i0 (.agg (mg0.cs ++ [Value.int .i64 0]).toArray) 40 432 Tryz.underlying39 hi hz0 hz1 hz2 rfl (by decide) (.slice (some ⟨b, 0, none⟩) 0 0) 0 [] rfl (HOa.out.alloc _) (some ⟨wa.heap.size, 0, none⟩) 1 1 (L1 ++ [Value.int .i64 65535]) rfl (fun h => nomatch h) (by rw [HL.out]) ?c2 HL1.out ?c4 ?c5 ?c6 ?_))
  case c2 =>
    intro ad had
    cases had
    exact World.news_of_block (t := 82) (fr := (0, 0)) (heap_alloc_new wa _)
  case c4 => unfold maxLen; omega
  case c5 => omega
  case c6 =>
    have h1 := HSa.out.2.2.2.size
    have h2 := (alloc_below wa (.cells (L1 ++ [Value.int .i64 65535]).toArray 82)).size
    omega
  intro v2 wb hown2 hgrow2 _
  obtain ⟨ao, cp, rfl, _⟩ := own_form hown2
  obtain ⟨hst, hkp⟩ := st_owned HSa.out HOa.out hgrow2
  have HSb := lh hst
  have HDb := lh (hkp _ _ _ _ (by decide) HDa.out)
  have Kb := lh (hkp _ _ _ _ (by decide) Ka.out)
  clear hst hkp hown2 hgrow2 HSa HDa Ka HOa c0 c1 c2 c3 c4 c5 f0 f1 f2 f3 f4 f5
  generalize L1 ++ [Value.int .i64 65535] = LC at *
  obtain ⟨c0, c1, c2, c3, c4, c5⟩ := six_cells HDb.out
  obtain ⟨f0, f1, f2, f3, f4, f5⟩ := six_frozen HDb.out
  have HDc := lh (heap_setCell_same wb d 4 _ _ (.slice ao 1 cp) HDb.out)
  have hgc := grown_setG (below_grownBy (Below.refl _ wb) (some d)) 4 (.slice ao 1 cp)
  have HSc := lh (HSb.out.far hgc (by omega))
  have Kc := lh ((hgc.block _ (row_ltP Kb.out) (fun e => by have := Option.some.inj e; omega)).trans Kb.out)
  clear HSb HDb Kb hgc
  go_upto_region 19 with fail
  generalize World.setCell wb ⟨d, 4, none⟩ (.slice ao 1 cp) = wc at *
  clear c0 c1 c2 c3 c4 c5 f0 f1 f2 f3 f4 f5
  have HDc := lh (show wc.heap[d]? = some (.cells #[.bool true, .int .i64 0, .string (T []), .slice none 0 0, .slice ao 1 cp, .string (T [])] 41 (0, 0)) from HDc.out)
  obtain ⟨c0, c1, c2, c3, c4, c5⟩ := six_cells HDc.out
  have k1 := (HK.out wc g).2.2 Kc.out
  obtain ⟨f0, f1, f2, f3, f4, f5⟩ := six_frozen HSc.out.2.2.1
  go_wp2_with fail
  obtain ⟨d0, d1, d2, d3, d4, d5⟩ := six_cells HSc.out.2.2.1
  go_region
  have hq := six_stored (v0 := .bool true) (v1 := .int .i64 0) (v2 := .string (T [])) (v3 := .slice none 0 0) (v4 := .slice ao 1 cp) (v5 := .string (T [])) HSc.out.2.2.1
  obtain ⟨q0, q1, q2, q3, q4, q5⟩ := six_cells hq
  have hg5 := six_grown (W := wc) (w.heap.size + 1 + 1) (.bool true) (.int .i64 0) (.string (T [])) (.slice none 0 0) (.slice ao 1 cp) (.string (T []))
  have hb5 : Below w.heap.size w _ := HSc.out.2.2.2.trans ⟨hg5.os, hg5.tape, hg5.output, hg5.size, fun i hi => hg5.block i (by have := HSc.out.2.2.2.size; omega) (fun e => by have := Option.some.inj e; omega)⟩
  go_wp2_with fail
  refine bodyPost_ret (v := .tuple #[.agg #[.bool true, .int .i64 0, .string (T []), .slice none 0 0, .slice ao 1 cp, .string (T [])], .int .i64 1, .string (T cb), .int .i64 0]) ?_ ?_ ?_
  · simp [results, Tryz.results11, go_sem, q0, q1, q2, q3, q4, q5]
  · rfl
  · exact ⟨ao, 1, cp, rfl, bnext hb5 (below_drew1 _)⟩
/-- The reader's block: no error so far. -/
def RdRow (W : World) (g : Nat) (s : List UInt8) (a : Nat) : Prop := W.heap[g]? = some (.cells #[.string (T s), .int .i64 (a : Int), .bool true] 87 (0, 0))
theorem RdRow.reads {W : World} {g a : Nat} {s : List UInt8} (h : RdRow W g s a) : (W.cell? ⟨g, 0, none⟩ = some (.string (T s)) ∧ W.cell? ⟨g, 1, none⟩ = some (.int .i64 (a : Int)) ∧ W.cell? ⟨g, 2, none⟩ = some (.bool true)) ∧ W.frozen? ⟨g, 1, none⟩ = false ∧ W.frozen? ⟨g, 2, none⟩ = false := by
  unfold RdRow at h
  refine ⟨⟨?_, ?_, ?_⟩, ?_, ?_⟩
  all_goals first
    | (rw [Lib.cell_of_heap h]; rfl)
    | (exact Lib.frozen_of_heap h _)
theorem RdRow.next {W W' : World} {g a : Nat} {s : List UInt8} (h : RdRow W g s a) (hb : Below W.heap.size W W') : RdRow W' g s a := (hb.block _ (row_ltP h)).trans h
theorem get_num (s : List UInt8) (a k : Nat) (w : World) (hk : 1 ≤ k) (hk2 : k ≤ 8) (h : a + k ≤ s.length) (hl : s.length ≤ 1000000) (hE : Oct.getE s (a : Int) (k : Int) = 0) :
    Calls Tryz.prog 30 #[.string (T s), .int .i64 (a : Int), .int .i64 (k : Int)] w fun e w' => e = .returned (.tuple #[.int .i64 (Oct.getN s (a : Int) (k : Int)), .int .i64 ((a + k : Nat) : Int), .int .i64 0]) ∧ w' = w := by
  refine (get_good (T s) a k w hk hk2 (by rw [T_size]; omega) (by rw [T_size]; omega)).mono ?_
  intro e w' h
  unfold GetSays at h
  rw [show (T s).data.toList = s from by simp [T]] at h
  unfold Oct.getT at h
  rw [hE, if_pos rfl] at h
  obtain ⟨rfl, rfl⟩ := h
  exact ⟨by simp, rfl⟩
theorem rnum_any (g : Nat) (s : List UInt8) (a k : Nat) (w : World) (h0 : RdRow w g s a) (hk : 1 ≤ k) (hk2 : k ≤ 8) (h : a + k ≤ s.length) (hl : s.length ≤ 1000000) (hE : Oct.getE s (a : Int) (k : Int) = 0) :
    Calls Tryz.prog 31 #[.pointer (some ⟨g, 0, none⟩), .int .i64 (k : Int)] w fun e w' => e = .returned (.int .i64 (Oct.getN s (a : Int) (k : Int))) ∧ RdRow w' g s (a + k) ∧ w.grownBy w' (some g) := by
  have HG := lh (fun W => get_num s a k W hk hk2 h hl hE)
  have HS := lh (show RdRow w.drew g s a from h0.next (below_drew1 w))
  have HSN := lh (show RdRow (w.drew.setCell ⟨g, 1, none⟩ (.int .i64 ((a + k : Nat) : Int))) g s (a + k) from heap_setCell_same w.drew g 1 _ _ (.int .i64 ((a + k : Nat) : Int)) HS.out)
  have HGN := lh (show w.grownBy (w.drew.setCell ⟨g, 1, none⟩ (.int .i64 ((a + k : Nat) : Int))) (some g) from (below_grownBy (below_drew1 w) (some g)).trans (grown_setG (below_grownBy (Below.refl _ w.drew) (some g)) 1 _))
  obtain ⟨⟨c0, c1, c2⟩, f1, f2⟩ := h0.reads
  clear h0 hk hk2 h hl hE
  generalize Oct.getN s (a : Int) (k : Int) = n at *
  generalize hak : ((a + k : Nat) : Int) = ak at *
  generalize (k : Int) = kk at *
  generalize (a : Int) = aa at *
  go_enter Tryz.func31, Tryz.ntmps31
  go_upto_region 3 with fail
  go_region_held3 (fun W' => W'.cell? ⟨g, 0, none⟩ = some (.string (T s)) ∧ W'.cell? ⟨g, 1, none⟩ = some (.int .i64 aa)) (first | (with_reducible assumption) | (exact ⟨c0, c1⟩)) (first | (go_at_call 30; (with_reducible refine (HG.out _).mono ?_); rintro e w4 ⟨rfl, rfl⟩))
  go_wp2_with fail
  go_ret
  exact ⟨rfl, HSN.out, HGN.out⟩
theorem rfield_clunk (g p : Nat) (s : List UInt8) (a : Nat) (t : Int) (w : World) (h0 : RdRow w g s a) (hm : w.heap[p]? = some (mgobj (clm t 0))) (hgp : g ≠ p) (h : a + 4 ≤ s.length) (hl : s.length ≤ 1000000) (hE : Oct.getE s (a : Int) 4 = 0) :
    Calls Tryz.prog 33 #[.pointer (some ⟨g, 0, none⟩), .pointer (some ⟨p, 0, none⟩), .int .u8 102] w fun e w' => e = .returned (.tuple #[]) ∧ RdRow w' g s (a + 4) ∧ w'.heap[p]? = some (mgobj (clm t (Oct.getN s (a : Int) 4))) ∧ (∀ B, B ≤ g → B ≤ p → B ≤ w.heap.size → Below B w w') := by
  have HN := lh (fun W h0 => show Calls Tryz.prog 31 #[.pointer (some ⟨g, 0, none⟩), .int .i64 4] W fun e w' => e = .returned (.int .i64 (Oct.getN s (a : Int) 4)) ∧ RdRow w' g s (a + 4) ∧ W.grownBy w' (some g) from rnum_any g s a 4 W h0 (by omega) (by omega) h hl hE)
  have HS := lh h0
  have HM := lh hm
  clear h hl hE h0 hm
  generalize Oct.getN s (a : Int) 4 = n at *
  have hF : (clm t 0).cs.toArray.setIfInBounds 2 (.int .i64 n) = (clm t n).cs.toArray := rfl
  have HC := lh (show ∀ W : World, W.heap[p]? = some (mgobj (clm t 0)) → (W.cell? ⟨p, 2, none⟩ = some (.int .i64 0) ∧ W.frozen? ⟨p, 2, none⟩ = false) ∧ (W.setCell ⟨p, 2, none⟩ (.int .i64 n)).heap[p]? = some (mgobj (clm t n)) from fun W h => ⟨⟨by rw [Lib.cell_of_heap h]; rfl, Lib.frozen_of_heap h _⟩, mg_set h 2 _ hF⟩)
  clear hF
  generalize mgobj (clm t 0) = m0 at *
  generalize mgobj (clm t n) = mn at *
  go_enter Tryz.func33, Tryz.ntmps33
  go_wp2_with fail
  have hs := HS.out
  (with_reducible refine (HN.out _ hs).mono ?_); rintro e w2 ⟨rfl, hs2, g2⟩
  have HM2 := lh ((g2.block _ (row_ltP HM.out) (fun e => hgp (Option.some.inj e).symm)).trans HM.out)
  obtain ⟨⟨c2, f2⟩, k2⟩ := HC.out _ HM2.out
  have HK := lh k2
  have hg3 := grown_setG (below_grownBy (Below.refl _ w2) (some p)) 2 (.int .i64 n)
  have HS3 := lh (show RdRow (w2.setCell ⟨p, 2, none⟩ (.int .i64 n)) g s (a + 4) from (hg3.block _ (row_ltP hs2) (fun e => hgp (Option.some.inj e))).trans hs2)
  have HB := lh (show ∀ B, B ≤ g → B ≤ p → B ≤ w.heap.size → Below B w (w2.setCell ⟨p, 2, none⟩ (.int .i64 n)) from fun B hg hp hB => ((below_of_grown g2 (row_ltP hs)).mono (by have := row_ltP hs; omega) : Below B w w2).trans ⟨hg3.os, hg3.tape, hg3.output, hg3.size, fun i hi => hg3.block i (by have := g2.size; omega) (fun e => by have := Option.some.inj e; omega)⟩)
  clear hs hs2 g2 k2 hg3
  go_wp2_with fail
  first | go_end0 | refine bodyPost_ret (results_none rfl _ _ _) rfl ?_
  exact ⟨rfl, HS3.out, HK.out, HB.out⟩
section
variable {P : Program}
theorem results_cell_row3 {fn : Func} {p q r : Tmp} {ty : TypeId} (h : fn.results = #[.cell p ty, .tmp q, .tmp r]) (tmps : Array Value) (w : World) (g : Nat) (t : TypeId) (cs : Array Value) (fr : Nat × Nat) (d : TypeDesc) (x y : Value)
    (hp : tmps.getD p undef = .pointer (some ⟨g, 0, none⟩)) (hq : tmps.getD q undef = x) (hr : tmps.getD r undef = y) (hg : w.heap[g]? = some (.cells cs t fr))
    (hu : P.underlying ty = some d) (hd : (match d with | .struct _ | .array _ _ => true | _ => false) = true) (hi : (P.info? ty).map (·.size) = some cs.size) :
    (results fn tmps).run P w = .ok (.tuple #[.agg cs, x, y]) w := by
  have hp' : tmps[p]?.getD undef = .pointer (some ⟨g, 0, none⟩) := by simpa using hp
  have hq' : tmps[q]?.getD undef = x := by simpa using hq
  have hr' : tmps[r]?.getD undef = y := by simpa using hr
  simp [results, h, hp', hq', hr', asAddr, run_loadVar_row w g t ty cs fr d hg hu hd hi]
end
def cb17 : List UInt8 := clbytes 1 7
theorem cb17_len : cb17.length = 11 := by decide +kernel
theorem get_clunk17 (w : World) : Calls Tryz.prog 12 #[.string (T cb17), .int .i64 0] w fun e w' => e = .returned (.tuple #[.agg (clm 1 7).cs.toArray, .int .i64 11, .int .i64 0]) ∧ Below w.heap.size w w' := by
  have HL := cb17_len
  have HB := lh (alloc_below w (mgobj mg0))
  have H1 := lh (heap_alloc_new w (mgobj mg0))
  have HG := lh (fun W => show Calls Tryz.prog 30 #[.string (T cb17), .int .i64 0, .int .i64 4] W fun e w' => e = .returned (.tuple #[.int .i64 11, .int .i64 4, .int .i64 0]) ∧ w' = W from by
    have := get_num cb17 0 4 W (by omega) (by omega) (by rw [HL]; omega) (by rw [HL]; omega) (by decide +kernel)
    rw [show Oct.getN cb17 ((0 : Nat) : Int) ((4 : Nat) : Int) = 11 from by decide +kernel] at this
    exact this)
  have HN1 := lh (fun (g : Nat) (W : World) (h : RdRow W g cb17 4) => show Calls Tryz.prog 31 #[.pointer (some ⟨g, 0, none⟩), .int .i64 1] W fun e w' => e = .returned (.int .i64 120) ∧ RdRow w' g cb17 5 ∧ W.grownBy w' (some g) from by
    have := rnum_any g cb17 4 1 W h (by omega) (by omega) (by rw [HL]; omega) (by rw [HL]; omega) (by decide +kernel)
    rw [show Oct.getN cb17 ((4 : Nat) : Int) ((1 : Nat) : Int) = 120 from by decide +kernel] at this
    exact this)
  have HN2 := lh (fun (g : Nat) (W : World) (h : RdRow W g cb17 5) => show Calls Tryz.prog 31 #[.pointer (some ⟨g, 0, none⟩), .int .i64 2] W fun e w' => e = .returned (.int .i64 1) ∧ RdRow w' g cb17 7 ∧ W.grownBy w' (some g) from by
    have := rnum_any g cb17 5 2 W h (by omega) (by omega) (by rw [HL]; omega) (by rw [HL]; omega) (by decide +kernel)
    rw [show Oct.getN cb17 ((5 : Nat) : Int) ((2 : Nat) : Int) = 1 from by decide +kernel] at this
    exact this)
  have HFI := lh (fun (g p : Nat) (W : World) (h0 : RdRow W g cb17 7) (hm : W.heap[p]? = some (mgobj (clm 1 0))) (hgp : g ≠ p) => show Calls Tryz.prog 33 #[.pointer (some ⟨g, 0, none⟩), .pointer (some ⟨p, 0, none⟩), .int .u8 102] W fun e w' => e = .returned (.tuple #[]) ∧ RdRow w' g cb17 11 ∧ w'.heap[p]? = some (mgobj (clm 1 7)) ∧ (∀ B, B ≤ g → B ≤ p → B ≤ W.heap.size → Below B W w') from by
    have := rfield_clunk g p cb17 7 1 W h0 hm hgp (by rw [HL]; omega) (by rw [HL]; omega) (by decide +kernel)
    rw [show Oct.getN cb17 ((7 : Nat) : Int) 4 = 7 from by decide +kernel] at this
    exact this)
  have HLY := lh layout_clunk
  have HNM := lh name_clunk
  have HCK := lh (fun W => check_clunk 1 7 (by omega) (by omega) (by omega) (by omega) W)
  have HU := lh (Tryz.underlying48)
  have HSZ0 := lh (mg_size (clm 1 0))
  have HSZ := lh (mg_size (clm 1 7))
  have HSY0 : RowKit.Hid (mg0.cs.toArray.size = (clm 1 0).cs.toArray.size) := lh rfl
  have HSY : RowKit.Hid (mg0.cs.toArray.size = (clm 1 7).cs.toArray.size) := lh rfl
  have HAL0 := lh (mg_all (clm 1 0) (clm_ok 1 0))
  have HAL := lh (mg_all (clm 1 7) (clm_ok 1 7))
  have HBU : RowKit.Hid (Tryz.prog.built 48 [(0, .int .i64 120), (1, .int .i64 1)] = some (clm 1 0).cs.toArray) := lh (by kernel_rfl)
  have HC := lh (show ∀ (W : World) (p : Nat), (W.heap[p]? = some (mgobj (clm 1 0)) → W.cell? ⟨p, 0, none⟩ = some (.int .i64 120)) ∧ (W.heap[p]? = some (mgobj (clm 1 7)) → W.cell? ⟨p, 0, none⟩ = some (.int .i64 120)) from fun W p => ⟨fun h => by rw [Lib.cell_of_heap h]; rfl, fun h => by rw [Lib.cell_of_heap h]; rfl⟩)
  have hsz : (T cb17).size = 11 := by rw [T_size, HL]
  have hex : (T cb17).extract 0 11 = T cb17 := by rw [← hsz]; exact ByteArray.extract_zero_size
  clear HL
  unfold mgobj at *
  generalize (clm 1 0).cs.toArray = A0 at *
  generalize (clm 1 7).cs.toArray = A7 at *
  generalize cb17 = cb at *
  go_enter Tryz.func12, Tryz.ntmps12
  go_upto_region 1 with fail
  generalize hw1 : World.alloc _ _ = w1
  have HB1 := lh (show Below w.heap.size w w1 from by rw [← hw1]; exact HB.out)
  have K1 := lh (show w1.heap[w.heap.size]? = some (.cells mg0.cs.toArray 48) from by rw [← hw1]; exact H1.out)
  clear HB H1 hw1
  go_wp2_with fail
  (with_reducible refine (HG.out _).mono ?_); rintro e wx ⟨rfl, rfl⟩
  go_upto_region 11 with fail
  have hr := heap_alloc_new wx (.cells #[.string (T cb), .int .i64 4, .bool true] 87)
  have HR2 := lh (show RdRow (wx.alloc (.cells #[.string (T cb), .int .i64 4, .bool true] 87)) wx.heap.size cb 4 from hr)
  have b2 := alloc_below wx (.cells #[.string (T cb), .int .i64 4, .bool true] 87)
  have HB2 := lh (bnext HB1.out b2)
  have K2 := lh ((b2.block _ (row_ltP K1.out)).trans K1.out)
  have hg0 : w.heap.size < wx.heap.size := row_ltP K1.out
  clear hr b2 HB1 K1
  generalize World.alloc wx _ = w2 at *
  generalize wx.heap.size = g at *
  go_wp2_with fail
  have hr2 := HR2.out
  (with_reducible refine (HN1.out _ _ hr2).mono ?_); rintro e w3 ⟨rfl, hr3, g3⟩
  have HR3 := lh hr3
  have K3 := lh ((g3.block _ (row_ltP K2.out) (fun e => by have := Option.some.inj e; omega)).trans K2.out)
  have HB3 := lh (HB2.out.trans ((below_of_grown g3 (row_ltP hr2)).mono (by omega)))
  clear hr2 hr3 g3 HR2 K2 HB2
  go_wp2_with fail
  have hr3 := HR3.out
  (with_reducible refine (HN2.out _ _ hr3).mono ?_); rintro e w4 ⟨rfl, hr4, g4⟩
  have HR4 := lh hr4
  have K4 := lh ((g4.block _ (row_ltP K3.out) (fun e => by have := Option.some.inj e; omega)).trans K3.out)
  have HB4 := lh (HB3.out.trans ((below_of_grown g4 (row_ltP hr3)).mono (by omega)))
  clear hr3 hr4 g4 HR3 K3 HB3
  have hz4 := heap_alloc_new w4 (.cells mg0.cs.toArray 48)
  go_upto_region 12 with (first | refine wpList_build_at rfl 48 _ rfl A0 (by simp only [List.map_toArray, List.map_cons, List.map_nil]; exact HBU.out) ?_ | refine wpList_store_row rfl 48 _ _ rfl w4.heap.size A0 rfl rfl 48 mg0.cs.toArray hz4 HSZ0.out HSY0.out HAL0.out ?_)
  generalize hw5 : World.setRow _ _ _ = w5
  have b5 := (show Below w4.heap.size w4 w5 from by rw [← hw5]; exact below_setRow (alloc_below w4 _) (Nat.le_refl _) _)
  have KP5 := lh (show w5.heap[w4.heap.size]? = some (.cells A0 48) from by rw [← hw5]; exact heap_setRow_same (heap_alloc_new w4 _))
  clear hw5 hz4
  have HR5 := lh (HR4.out.next b5)
  have K5 := lh ((b5.block _ (row_ltP K4.out)).trans K4.out)
  have HB5 := lh (bnext HB4.out b5)
  have hg1 : g < w4.heap.size := row_ltP HR4.out
  clear b5 HR4 K4 HB4
  generalize w4.heap.size = p at *
  have c0 := (HC.out w5 p).1 KP5.out
  go_wp2_with fail
  (with_reducible refine (HLY.out _).mono ?_); rintro e wy ⟨rfl, rfl⟩
  go_wp2_with fail
  refine wp_loop_rounds 2 ?_
  rw [rounds_succ]
  have k102 : ∀ h, ((T [102])[0]'h).toNat = 102 := fun _ => rfl
  have k1 : (T [102]).size = 1 := rfl
  go_wp2_with fail
  have hr5 := HR5.out
  have hp5 := KP5.out
  (with_reducible refine (HFI.out _ _ _ hr5 hp5 (by omega)).mono ?_); rintro e w6 ⟨rfl, hr6, hp6, g6⟩
  have HR6 := lh hr6
  have KP6 := lh hp6
  have b6 := g6 g (Nat.le_refl _) (by omega) (by have := row_ltP hr5; omega)
  have K6 := lh ((b6.block _ (by omega)).trans K5.out)
  have HB6 := lh (HB5.out.trans (b6.mono (by omega)))
  clear hr5 hp5 hr6 hp6 g6 b6 HR5 KP5 K5 HB5 c0
  go_wp2_with fail
  rw [rounds_succ]
  have c0 := (HC.out w6 p).2 KP6.out
  obtain ⟨⟨r0, r1, r2⟩, _, _⟩ := HR6.out.reads
  go_wp2_with fail
  (with_reducible refine (HNM.out _).mono ?_); rintro e w7 ⟨rfl, b7⟩
  have HR7 := lh (HR6.out.next b7)
  have KP7 := lh ((b7.block _ (row_ltP KP6.out)).trans KP6.out)
  have K7 := lh ((b7.block _ (row_ltP K6.out)).trans K6.out)
  have HB7 := lh (bnext HB6.out b7)
  clear b7 HR6 KP6 K6 HB6 c0 r0 r1 r2
  obtain ⟨⟨r0, r1, r2⟩, _, _⟩ := HR7.out.reads
  have kn : (T [84, 67, 108, 117, 110, 107] = ByteArray.empty) = False := eq_false (fun h => (by decide : ¬ (6 : Nat) = 0) (congrArg ByteArray.size h))
  go_wp2_with (refine wpList_load_row rfl 48 _ rfl p rfl 48 A7 (0, 0) _ KP7.out HU.out rfl HSZ.out ?_)
  (with_reducible refine (HCK.out _).mono ?_); rintro e w8 ⟨rfl, b8⟩
  have KP8 := lh ((b8.block _ (row_ltP KP7.out)).trans KP7.out)
  have K8 := lh ((b8.block _ (row_ltP K7.out)).trans K7.out)
  have HB8 := lh (bnext HB7.out b8)
  clear b8 HR7 KP7 K7 HB7 r0 r1 r2
  generalize mg0.cs.toArray = A3 at *
  go_wp2_with (first | refine wpList_load_row rfl 48 _ rfl p rfl 48 A7 (0, 0) _ KP8.out HU.out rfl HSZ.out ?_ | refine wpList_store_row rfl 48 _ _ rfl w.heap.size A7 rfl rfl 48 A3 K8.out HSZ.out HSY.out HAL.out ?_)
  refine bodyPost_ret (v := .tuple #[.agg A7, .int .i64 11, .int .i64 0]) (results_cell_row3 Tryz.results12 _ _ w.heap.size 48 A7 (0, 0) _ _ _ rfl rfl rfl (heap_setRow_same K8.out) HU.out rfl HSZ.out) rfl ⟨rfl, below_setRow HB8.out (Nat.le_refl _) _⟩
end Go.Proofs.YtfibaopngpfmjaaGreatDoor
