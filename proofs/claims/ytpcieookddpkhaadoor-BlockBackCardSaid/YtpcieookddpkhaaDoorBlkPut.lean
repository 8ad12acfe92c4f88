/- What block.Put returns: Blok.put. Conditions: the slice holds the given blocks; at most 10^6 of them, data of at most 10^6 bytes; the 64 constants in the variable. -/
import Derived.Test.YtpcieookddpkhaaDoorBlkStore
import Derived.Test.YtpcieookddpkhaaDoorBlkGet
import Derived.BigRegion
set_option linter.unusedVariables false
set_option linter.unusedSimpArgs false
namespace Go.Proofs.YtpcieookddpkhaaDoor
open Go.RowKit
namespace Blok
theorem put_arg {c : Int} {bs : List Blk} {k : Int} {d : List UInt8} (h : known k = false) : put c bs k d = (bs, [], 1) := by unfold put; rw [if_pos h]
theorem put_long {c : Int} {bs : List Blk} {k : Int} {d : List UInt8} (h : known k = true) (h2 : 1024 < d.length) : put c bs k d = (bs, [], 4) := by unfold put; rw [if_neg (by simp [h]), if_pos h2]
theorem put_same {c : Int} {bs : List Blk} {k : Int} {d : List UInt8} {i : Nat} (h : known k = true) (h2 : d.length ≤ 1024) (hi : idx (scr k d) bs = i) (hl : i < bs.length) (he : bs[i] = made k d) : put c bs k d = (bs, scr k d, 0) := by
  have e : (idx (scr k d) bs).toNat = i := by omega
  unfold put; rw [if_neg (by simp [h]), if_neg (by omega), if_pos (by omega), e, List.getElem?_eq_getElem hl, he, if_pos rfl]
theorem put_bad {c : Int} {bs : List Blk} {k : Int} {d : List UInt8} {i : Nat} (h : known k = true) (h2 : d.length ≤ 1024) (hi : idx (scr k d) bs = i) (hl : i < bs.length) (he : ¬ bs[i] = made k d) : put c bs k d = (bs, [], 34) := by
  have e : (idx (scr k d) bs).toNat = i := by omega
  unfold put; rw [if_neg (by simp [h]), if_neg (by omega), if_pos (by omega), e, List.getElem?_eq_getElem hl, if_neg (by simpa using he)]
theorem put_full {c : Int} {bs : List Blk} {k : Int} {d : List UInt8} (h : known k = true) (h2 : d.length ≤ 1024) (hi : idx (scr k d) bs < 0) (hc : c ≤ bs.length) : put c bs k d = (bs, [], 22) := by
  unfold put; rw [if_neg (by simp [h]), if_neg (by omega), if_neg (by omega), if_pos hc]
theorem put_new {c : Int} {bs : List Blk} {k : Int} {d : List UInt8} (h : known k = true) (h2 : d.length ≤ 1024) (hi : idx (scr k d) bs < 0) (hc : bs.length < c) : put c bs k d = (bs ++ [made k d], scr k d, 0) := by
  unfold put; rw [if_neg (by simp [h]), if_neg (by omega), if_neg (by omega), if_neg (by omega)]
end Blok
/-- The call's answer: a store with the given list, a score, an error. -/
def BkPutSays (c : Int) (p : List Blk × List UInt8 × Int) (w : World) (e : Ending) (w' : World) : Prop :=
  ∃ v', e = .returned (.tuple #[.agg #[.int .i64 c, v'], .string (T p.2.1), .int .i64 p.2.2]) ∧ Blks w' v' p.1 ∧ Below w.heap.size w w'
theorem bkput_says {c : Int} {p : List Blk × List UInt8 × Int} {l : List Blk} {x : List UInt8} {E : Int} {w w' : World} {v' : Value} (h : p = (l, x, E)) (hb : Blks w' v' l) (hw : Below w.heap.size w w') :
    BkPutSays c p w (.returned (.tuple #[.agg #[.int .i64 c, v'], .string (T x), .int .i64 E])) w' := by
  subst h; exact ⟨v', rfl, hb, hw⟩
/-- The same, the list in memory of the call's own. -/
def BkPutOwn (c : Int) (p : List Blk × List UInt8 × Int) (w : World) (e : Ending) (w' : World) : Prop :=
  ∃ v', e = .returned (.tuple #[.agg #[.int .i64 c, v'], .string (T p.2.1), .int .i64 p.2.2]) ∧ w'.ownsRow w.heap.size 49 3 v' p.1.length (bcs p.1) ∧ Below w.heap.size w w'
theorem bkput_own {c : Int} {p : List Blk × List UInt8 × Int} {l : List Blk} {x : List UInt8} {E : Int} {w w' : World} {v' : Value} (h : p = (l, x, E)) (hb : w'.ownsRow w.heap.size 49 3 v' l.length (bcs l)) (hw : Below w.heap.size w w') :
    BkPutOwn c p w (.returned (.tuple #[.agg #[.int .i64 c, v'], .string (T x), .int .i64 E])) w' := by
  subst h; exact ⟨v', rfl, hb, hw⟩
theorem own_below {w w' : World} {base : Nat} {e : TypeId} {size n : Nat} {v : Value} {xs : List Value} (h : w.ownsRow base e size v n xs) (hb : Below w.heap.size w w') : w'.ownsRow base e size v n xs := by
  refine ⟨h.1, ?_⟩
  rcases h.2 with h | ⟨g, cap, cur, hv, hg, hrow, hrest⟩
  · exact .inl h
  · refine .inr ⟨g, cap, cur, hv, hg, ?_, hrest⟩
    have hlt2 : g < w.heap.size := by
      rcases Nat.lt_or_ge g w.heap.size with h' | h'
      · exact h'
      · simp [Array.getElem?_eq_none h'] at hrow
    exact (hb.block g hlt2).trans hrow
theorem own_ne {w : World} {base : Nat} {e e2 : TypeId} {size n p : Nat} {v : Value} {xs : List Value} {cs : Array Value} {fr : Nat × Nat} (h : w.ownsRow base e size v n xs) (hp : w.heap[p]? = some (.cells cs e2 fr)) (hne : e ≠ e2) : v.ownBlock ≠ some p := by
  intro hv
  rcases h.2 with ⟨rfl, _⟩ | ⟨g, cap, cur, rfl, hg, hrow, hrest⟩
  · simp [Value.ownBlock] at hv
  · simp only [Value.ownBlock, Option.some.injEq] at hv
    subst hv
    rw [hp] at hrow
    injection hrow with hrow
    injection hrow with _ hrow _
    exact hne hrow.symm
theorem own_set {w : World} {base : Nat} {e e2 : TypeId} {size n p : Nat} {v : Value} {xs : List Value} {cs : Array Value} {fr : Nat × Nat} (h : w.ownsRow base e size v n xs) (hp : w.heap[p]? = some (.cells cs e2 fr)) (hne : e ≠ e2) (o : Nat) (u : Value) : (w.setCell ⟨p, o, none⟩ u).ownsRow base e size v n xs := by
  have hn := own_ne h hp hne
  refine ⟨h.1, ?_⟩
  rcases h.2 with h | ⟨g, cap, cur, rfl, hg, hrow, hrest⟩
  · exact .inl h
  · refine .inr ⟨g, cap, cur, rfl, hg, ?_, hrest⟩
    rw [Below.heap_setCell _ _ _ _ (fun e => hn (by simp [Value.ownBlock, e]))]
    exact hrow
/-- What stands behind the clone: the box of the store, the cell of the result, the box of the copy. -/
def PutSt (w W : World) (g : Nat) (c : Int) (v v1 : Value) (bs : List Blk) : Prop :=
  W.heap[w.heap.size]? = some (.cells #[.int .i64 c, v] 24 (0, 0)) ∧ W.heap[w.heap.size + 1]? = some (.cells #[.int .i64 0, .slice none 0 0] 24 (0, 0)) ∧ W.heap[g]? = some (.cells #[.int .i64 c, v1] 24 (0, 0)) ∧
  w.heap.size + 2 ≤ g ∧ W.ownsRow (w.heap.size + 2) 49 3 v1 bs.length (bcs bs) ∧ Below w.heap.size w W
theorem row_lt {w : World} {b : Nat} {o : Obj} (h : w.heap[b]? = some o) : b < w.heap.size := by
  rcases Nat.lt_or_ge b w.heap.size with h' | h'
  · exact h'
  · simp [Array.getElem?_eq_none h'] at h
theorem PutSt.next {w W W' : World} {g : Nat} {c : Int} {v v1 : Value} {bs : List Blk} (h : PutSt w W g c v v1 bs) (hb : Below W.heap.size W W') : PutSt w W' g c v v1 bs := by
  obtain ⟨h0, h1, h2, h3, h4, h5⟩ := h
  exact ⟨(hb.block _ (row_lt h0)).trans h0, (hb.block _ (row_lt h1)).trans h1, (hb.block _ (row_lt h2)).trans h2, h3, own_below h4 hb, bnext h5 hb⟩
theorem PutSt.start {w w1 : World} {c : Int} {v v1 : Value} {bs : List Blk}
    (hown : w1.ownsRow ((w.alloc (.cells #[.int .i64 c, v] 24)).alloc (.cells #[.int .i64 0, .slice none 0 0] 24)).heap.size 49 3 v1 bs.length (bcs bs))
    (hb : Below ((w.alloc (.cells #[.int .i64 c, v] 24)).alloc (.cells #[.int .i64 0, .slice none 0 0] 24)).heap.size ((w.alloc (.cells #[.int .i64 c, v] 24)).alloc (.cells #[.int .i64 0, .slice none 0 0] 24)) w1) :
    PutSt w (w1.alloc (.cells #[.int .i64 c, v1] 24)) w1.heap.size c v v1 bs := by
  have r0 := after_alloc2_old hb
  have r1 := after_alloc2_new hb
  have hbw := after_alloc2 hb
  have e : ((w.alloc (.cells #[.int .i64 c, v] 24)).alloc (.cells #[.int .i64 0, .slice none 0 0] 24)).heap.size = w.heap.size + 2 := by simp
  rw [e] at hown
  have hsz := hb.size
  rw [e] at hsz
  refine ⟨(Lib.alloc_old _ _ _ (row_lt r0)).trans r0, (Lib.alloc_old _ _ _ (row_lt r1)).trans r1, heap_alloc_new _ _, hsz, hown.alloc _, hbw.alloc hbw.size _⟩
theorem PutSt.reads {w W : World} {g : Nat} {c : Int} {v v1 : Value} {bs : List Blk} (h : PutSt w W g c v v1 bs) :
    W.cell? ⟨w.heap.size, 0, none⟩ = some (.int .i64 c) ∧ W.cell? ⟨w.heap.size, 1, none⟩ = some v ∧ W.cell? ⟨w.heap.size + 1, 0, none⟩ = some (.int .i64 0) ∧ W.cell? ⟨w.heap.size + 1, 1, none⟩ = some (.slice none 0 0) ∧ W.frozen? ⟨w.heap.size + 1, 0, none⟩ = false ∧ W.frozen? ⟨w.heap.size + 1, 1, none⟩ = false ∧ W.cell? ⟨g, 0, none⟩ = some (.int .i64 c) ∧ W.cell? ⟨g, 1, none⟩ = some v1 ∧ W.frozen? ⟨g, 1, none⟩ = false := by
  obtain ⟨h0, h1, h2, h3, h4, h5⟩ := h
  refine ⟨?_, ?_, ?_, ?_, frozen_of_row W _ 0 _ _ h1, frozen_of_row W _ 1 _ _ h1, ?_, ?_, frozen_of_row W _ 1 _ _ h2⟩
  · rw [cell_of_row _ _ _ _ _ _ h0]; rfl
  · rw [cell_of_row _ _ _ _ _ _ h0]; rfl
  · rw [cell_of_row _ _ _ _ _ _ h1]; rfl
  · rw [cell_of_row _ _ _ _ _ _ h1]; rfl
  · rw [cell_of_row _ _ _ _ _ _ h2]; rfl
  · rw [cell_of_row _ _ _ _ _ _ h2]; rfl
/-- The answer, written into the cell of the result. -/
theorem PutSt.done {w W : World} {g : Nat} {c : Int} {v v1 : Value} {bs : List Blk} (h : PutSt w W g c v v1 bs) (a b : Value) : ((W.setCell ⟨w.heap.size + 1, 0, none⟩ a).setCell ⟨w.heap.size + 1, 1, none⟩ b).ownsRow w.heap.size 49 3 v1 bs.length (bcs bs) ∧ Below w.heap.size w ((W.setCell ⟨w.heap.size + 1, 0, none⟩ a).setCell ⟨w.heap.size + 1, 1, none⟩ b) := by
  obtain ⟨h0, h1, h2, h3, h4, h5⟩ := h
  exact ⟨World.ownsRow.mono (ownsRow_setCell_below (ownsRow_setCell_below h4 (a := ⟨w.heap.size + 1, 0, none⟩) (Nat.lt_succ_self _) _) (a := ⟨w.heap.size + 1, 1, none⟩) (Nat.lt_succ_self _) _) (by omega), (h5.setCell (p := ⟨w.heap.size + 1, 0, none⟩) (Nat.le_succ _) _).setCell (p := ⟨w.heap.size + 1, 1, none⟩) (Nat.le_succ _) _⟩
theorem PutSt.slice {w W : World} {g : Nat} {c : Int} {v v1 : Value} {bs : List Blk} (h : PutSt w W g c v v1 bs) : ∃ a n cp, v1 = .slice a n cp := by
  obtain ⟨h0, h1, h2, h3, h4, h5⟩ := h
  rcases h4.2 with ⟨e, _⟩ | ⟨g', cap', cur, e, _⟩
  · exact ⟨_, _, _, e⟩
  · exact ⟨_, _, _, e⟩
theorem PutSt.push {w W w6 : World} {g : Nat} {c : Int} {v v1 v' : Value} {bs : List Blk} {x : Blk} {o : Obj} (h : PutSt w W g c v v1 bs) (hown : w6.ownsRow (w.heap.size + 2) 49 3 v' (bs.length + 1) (bcs bs ++ bcs [x])) (hg : (W.alloc o).grownBy w6 v1.ownBlock) :
    w6.heap[g]? = some (.cells #[.int .i64 c, v1] 24 (0, 0)) ∧ PutSt w (w6.setCell ⟨g, 1, none⟩ v') g c v v' (bs ++ [x]) := by
  obtain ⟨h0, h1, h2, h3, h4, h5⟩ := h
  have kp : ∀ (b : Nat) (cs : Array Value), W.heap[b]? = some (.cells cs 24 (0, 0)) → w6.heap[b]? = some (.cells cs 24 (0, 0)) := fun b cs hb =>
    (hg.block b (by have := row_lt hb; simp; omega) (fun e => own_ne h4 hb (by decide) e.symm)).trans ((Lib.alloc_old _ _ _ (row_lt hb)).trans hb)
  have g0 := kp _ _ h0
  have g1 := kp _ _ h1
  have g2 := kp _ _ h2
  refine ⟨g2, ?_, ?_, heap_setCell_same w6 g 1 _ _ v' g2, h3, ?_, ?_⟩
  · rw [Below.heap_setCell _ _ _ _ (by simp; omega)]; exact g0
  · rw [Below.heap_setCell _ _ _ _ (by simp; omega)]; exact g1
  · have := own_set hown g2 (by decide) 1 v'
    rw [bcs_append]; simpa using this
  · exact ((h5.alloc h5.size o).grown hg (by have := h5.size; simp; omega) (fun k hk => by have := (h4.lt k hk).1; omega)).setCell (p := ⟨g, 1, none⟩) (by simp; omega) _
set_option maxRecDepth 20000 in
set_option maxHeartbeats 4000000 in
theorem bput_own (c : Int) (v : Value) (bs : List Blk) (k : Int) (d : List UInt8) (w : World) (hv : Blks w v bs) (hl : bs.length ≤ 1000000) (hd : d.length ≤ 1000000) (hK : KIn w) :
    Calls Tryd.prog 23 #[.agg #[.int .i64 c, v], .int .i64 k, .string (T d)] w (BkPutOwn c (Blok.put c bs k d) w) := by
  obtain ⟨ao, n, cp, rfl⟩ := hv.form
  obtain ⟨rfl, k1⟩ := hv.at
  have H1 := Lib.hid k1
  clear k1
  have HCL := Lib.hid (sclone_any c (.slice ao bs.length cp) bs _ (hv.below (((Below.refl w.heap.size w).alloc (Nat.le_refl _) (.cells #[.int .i64 c, .slice ao bs.length cp] 24)).alloc (by simp) (.cells #[.int .i64 0, .slice none 0 0] 24))) hl)
  have HKN := Lib.hid (fun (g : Nat) (v1 : Value) (W : World) (h : PutSt w W g c (.slice ao bs.length cp) v1 bs) => (known_any k W).mono fun e w' (h' : e = _ ∧ W = w') => (⟨h'.1, h'.2 ▸ h⟩ : e = .returned (.bool (Blok.known k)) ∧ PutSt w w' g c (.slice ao bs.length cp) v1 bs))
  have HMD := Lib.hid (fun (g : Nat) (v1 : Value) (W : World) (h : PutSt w W g c (.slice ao bs.length cp) v1 bs) => (made_any k d W hd (hK.below h.2.2.2.2.2)).mono fun e w' (h' : e = _ ∧ Below W.heap.size W w') => (⟨h'.1, h.next h'.2⟩ : e = .returned (.agg #[.string (T (Blok.scr k d)), .int .i64 k, .string (T d)]) ∧ PutSt w w' g c (.slice ao bs.length cp) v1 bs))
  have HIX := Lib.hid (fun (g : Nat) (v1 : Value) (x : List UInt8) (o : Obj) (W : World) (h : PutSt w W g c (.slice ao bs.length cp) v1 bs) => (index_any c (.slice ao bs.length cp) bs x (W.alloc o) (hv.below (h.2.2.2.2.2.alloc h.2.2.2.2.2.size _)) hl).mono fun e w' (h' : e = _ ∧ Below (W.alloc o).heap.size (W.alloc o) w') => (⟨h'.1, h.next (after_alloc1 h'.2), after_alloc1_new h'.2⟩ : e = .returned (.int .i64 (Blok.idx x bs)) ∧ PutSt w w' g c (.slice ao bs.length cp) v1 bs ∧ w'.heap[W.heap.size]? = some o))
  clear hv hK
  go_enter Tryd.func23, Tryd.ntmps23
  go_wp2_with fail
  refine HCL.out.mono ?_; rintro e w1 ⟨v1, rfl, hown, hb1⟩
  have hst := PutSt.start hown hb1
  obtain ⟨a1, n1, p1, rfl⟩ := hst.slice
  have HST := Lib.hid hst
  clear hst hown hb1
  cases hkn : Blok.known k
  · have HR := Lib.hid (Blok.put_arg (c := c) (bs := bs) (d := d) hkn)
    rw [hkn] at HKN
    go_wp2_with fail
    refine (HKN.out _ _ _ HST.out).mono ?_; rintro e W ⟨rfl, hst⟩
    obtain ⟨r1, r2, r3, r4, r5, r6, r7, r8, r9⟩ := hst.reads
    have HS := Lib.hid hst
    clear hst
    go_wp2_with fail
    exact bodyPost_ret (v := .tuple #[.agg #[.int .i64 c, .slice a1 n1 p1], .string (T []), .int .i64 1]) (by simp [results, Tryd.results23, go_sem, r1, r2, r3, r4]) rfl (bkput_own HR.out (HS.out.done _ _).1 (HS.out.done _ _).2)
  rw [hkn] at HKN
  rcases Nat.lt_or_ge 1024 d.length with hdl | hdl
  · have HR := Lib.hid (Blok.put_long (c := c) (bs := bs) hkn hdl)
    have hdi : (1024 : Int) < d.length := by omega
    go_wp2_with fail
    refine (HKN.out _ _ _ HST.out).mono ?_; rintro e W ⟨rfl, hst⟩
    obtain ⟨r1, r2, r3, r4, r5, r6, r7, r8, r9⟩ := hst.reads
    have HS := Lib.hid hst
    clear hst
    go_wp2_with fail
    exact bodyPost_ret (v := .tuple #[.agg #[.int .i64 c, .slice a1 n1 p1], .string (T []), .int .i64 4]) (by simp [results, Tryd.results23, go_sem, r1, r2, r3, r4]) rfl (bkput_own HR.out (HS.out.done _ _).1 (HS.out.done _ _).2)
  have hdi : (d.length : Int) ≤ 1024 := by omega
  go_wp2_with fail
  refine (HKN.out _ _ _ HST.out).mono ?_; rintro e W ⟨rfl, hst⟩
  have HS := Lib.hid hst
  clear hst
  go_wp2_with fail
  refine (HMD.out _ _ _ HS.out).mono ?_; rintro e W2 ⟨rfl, hst⟩
  have l0 : w.heap.size < W2.heap.size := row_lt hst.1
  have l00 := row_lt hst.2.1
  have ne1 : W2.heap.size ≠ w.heap.size + 1 := by omega
  have ne2 : w.heap.size + 1 ≠ W2.heap.size := by omega
  have ne3 : w1.heap.size ≠ w.heap.size + 1 := by have := hst.2.2.2.1; omega
  have ne4 : w.heap.size + 1 ≠ w1.heap.size := by omega
  clear l00
  have q1 : (W2.alloc (.cells #[.string (T (Blok.scr k d)), .int .i64 k, .string (T d)] 49)).cell? ⟨w.heap.size, 0, none⟩ = some (.int .i64 c) := by rw [World.cell?_alloc_lt _ _ _ l0]; exact hst.reads.1
  have q2 : (W2.alloc (.cells #[.string (T (Blok.scr k d)), .int .i64 k, .string (T d)] 49)).cell? ⟨w.heap.size, 1, none⟩ = some (.slice ao bs.length cp) := by rw [World.cell?_alloc_lt _ _ _ l0]; exact hst.reads.2.1
  have HS2 := Lib.hid hst
  clear hst
  go_wp2_with fail
  refine (HIX.out _ _ _ _ _ HS2.out).mono ?_; rintro e W3 ⟨rfl, hst, hrow⟩
  obtain ⟨r1, r2, r3, r4, r5, r6, r7, r8, r9⟩ := hst.reads
  have e0 : W3.cell? ⟨W2.heap.size, 0, none⟩ = some (.string (T (Blok.scr k d))) := by rw [cell_of_row _ _ _ _ _ _ hrow]; rfl
  have e1 : W3.cell? ⟨W2.heap.size, 1, none⟩ = some (.int .i64 k) := by rw [cell_of_row _ _ _ _ _ _ hrow]; rfl
  have e2 : W3.cell? ⟨W2.heap.size, 2, none⟩ = some (.string (T d)) := by rw [cell_of_row _ _ _ _ _ _ hrow]; rfl
  have HS3 := Lib.hid hst
  have HROW := Lib.hid hrow
  have l3 : W2.heap.size < W3.heap.size := row_lt hrow
  clear hst hrow q1 q2 l0
  rcases Int.lt_or_le (Blok.idx (Blok.scr k d) bs) 0 with hi | hi
  · rcases Int.lt_or_le bs.length c with hc | hc
    · have HR := Lib.hid (Blok.put_new hkn hdl hi hc)
      generalize Blok.idx (Blok.scr k d) bs = I at *
      obtain ⟨i0, hi0, hz0, hz1, hz2⟩ := info_parts (P := Tryd.prog) (e := 49) (z := .agg #[.string ByteArray.empty, .int .i64 0, .string ByteArray.empty]) (size := 3) (bytes := 40) (by kernel_rfl)
      have lg : w1.heap.size < W2.heap.size := row_lt HS2.out.2.2.1
      have hv1 : (Value.slice a1 n1 p1).ownBlock ≠ some W2.heap.size := fun e => by have := (HS2.out.2.2.2.2.1.lt _ e).2; omega
      go_wp2_with (at_builtin; refine wpList_append_own _ rfl _ _ 22 rfl (w.heap.size + 2) 49 i0 (.agg #[.string ByteArray.empty, .int .i64 0, .string ByteArray.empty]) 3 40 Tryd.underlying22 hi0 hz0 hz1 hz2 rfl (by decide) (.slice a1 n1 p1) bs.length (bcs bs) rfl ?c0 ⟨W3.heap.size, 0, none⟩ 1 1 (bcs [Blok.made k d]) rfl ?c1 ?c2 ?c3 ?c4 ?c5 ?c6 ?_)
      case c0 => exact HS3.out.2.2.2.2.1.alloc _
      case c1 => rfl
      case c2 =>
        intro j u hj
        match j, hj with
        | 0, hj => simp [bcs, Blok.made] at hj; subst hj; simp [Addr.add]
        | 1, hj => simp [bcs, Blok.made] at hj; subst hj; simp [Addr.add]
        | 2, hj => simp [bcs, Blok.made] at hj; subst hj; simp [Addr.add]
        | j + 3, hj => simp [bcs] at hj
      case c3 => exact bcs_one _
      case c4 => unfold maxLen; omega
      case c5 => omega
      case c6 => have := HS3.out.2.2.2.1; simp; omega
      intro v6 w6 hown hgrow _
      obtain ⟨g2, hst6⟩ := HS3.out.push hown hgrow
      have hr6 : w6.heap[W2.heap.size]? = some (.cells #[.string (T (Blok.scr k d)), .int .i64 k, .string (T d)] 49 (0, 0)) := (hgrow.block _ (by simp; omega) (fun e => hv1 e.symm)).trans ((Lib.alloc_old _ _ _ l3).trans HROW.out)
      have hr7 : (w6.setCell ⟨w1.heap.size, 1, none⟩ v6).heap[W2.heap.size]? = some (.cells #[.string (T (Blok.scr k d)), .int .i64 k, .string (T d)] 49 (0, 0)) := by
        rw [Below.heap_setCell _ _ _ _ (by simp; omega)]; exact hr6
      obtain ⟨a6, n6, p6, rfl⟩ := hst6.slice
      have d1 : w6.cell? ⟨w1.heap.size, 1, none⟩ = some (.slice a1 n1 p1) := by rw [cell_of_row _ _ _ _ _ _ g2]; rfl
      have f1 := frozen_of_row w6 w1.heap.size 1 _ _ g2
      clear hown hgrow hr6 g2 r1 r2 r3 r4 r5 r6 r7 r8 r9 e0 e1 e2
      go_upto_region 15 with fail
      generalize w6.setCell ⟨w1.heap.size, 1, none⟩ (.slice a6 n6 p6) = W7 at *
      obtain ⟨r1, r2, r3, r4, r5, r6, r7, r8, r9⟩ := hst6.reads
      have e0 : W7.cell? ⟨W2.heap.size, 0, none⟩ = some (.string (T (Blok.scr k d))) := by rw [cell_of_row _ _ _ _ _ _ hr7]; rfl
      have HS7 := Lib.hid hst6
      clear hst6 hr7 d1 f1
      generalize Blok.scr k d = M at *
      go_region
      all_goals
        go_wp2_with fail
        exact bodyPost_ret (v := .tuple #[.agg #[.int .i64 c, .slice a6 n6 p6], .string (T M), .int .i64 0]) (by simp [results, Tryd.results23, go_sem, r1, r2, r3, r4]) rfl (bkput_own HR.out ((HS7.out.next (below_drewN (Below.refl _ _) _)).done _ _).1 ((HS7.out.next (below_drewN (Below.refl _ _) _)).done _ _).2)
    · have HR := Lib.hid (Blok.put_full hkn hdl hi hc)
      generalize Blok.idx (Blok.scr k d) bs = I at *
      go_wp2_with fail
      exact bodyPost_ret (v := .tuple #[.agg #[.int .i64 c, .slice a1 n1 p1], .string (T []), .int .i64 22]) (by simp [results, Tryd.results23, go_sem, r1, r2, r3, r4]) rfl (bkput_own HR.out (HS3.out.done _ _).1 (HS3.out.done _ _).2)
  · obtain ⟨i, hil, hii, hsc⟩ := Blok.hit hi
    obtain ⟨x1, o1, rfl, l1, c0, c1', c2'⟩ := H1.out i hil
    rw [← HS3.out.2.2.2.2.2.cell (p := ⟨x1, o1 + i * 3, none⟩) l1] at c0
    rw [← HS3.out.2.2.2.2.2.cell (p := ⟨x1, o1 + i * 3 + 1, none⟩) l1] at c1'
    rw [← HS3.out.2.2.2.2.2.cell (p := ⟨x1, o1 + i * 3 + 2, none⟩) l1] at c2'
    have hli : (i : Int) < bs.length := by omega
    rw [hii]
    by_cases he : bs[i] = Blok.made k d
    · have HR := Lib.hid (Blok.put_same (c := c) hkn hdl hii hil he)
      rw [he] at c0 c1' c2'
      unfold Blok.made at c0 c1' c2'
      simp only [] at c0 c1' c2'
      generalize Blok.scr k d = M at *
      go_upto_region 9 with fail
      go_quiet (fail)
      go_upto_region 11 with fail
      go_region
      all_goals
        go_wp2_with fail
        exact bodyPost_ret (v := .tuple #[.agg #[.int .i64 c, .slice a1 n1 p1], .string (T M), .int .i64 0]) (by simp [results, Tryd.results23, go_sem, r1, r2, r3, r4]) rfl (bkput_own HR.out ((HS3.out.next (below_drewN (Below.refl _ _) _)).done _ _).1 ((HS3.out.next (below_drewN (Below.refl _ _) _)).done _ _).2)
    · have HR := Lib.hid (Blok.put_bad (c := c) hkn hdl hii hil he)
      have hq1 := teq_yes hsc
      have HNE := Lib.hid (fun (h2 : (bs[i].kd == k) = true) (h3 : (bs[i].dt == d) = true) => he (bk_ext hsc (show bs[i].kd = k by simpa using h2) (show bs[i].dt = d by simpa using h3)))
      generalize Blok.scr k d = M at *
      generalize bs[i] = B at *
      clear he
      cases hq2 : (B.kd == k)
      · go_upto_region 9 with fail
        go_quiet (fail)
        go_wp2_with fail
        exact bodyPost_ret (v := .tuple #[.agg #[.int .i64 c, .slice a1 n1 p1], .string (T []), .int .i64 34]) (by simp [results, Tryd.results23, go_sem, r1, r2, r3, r4]) rfl (bkput_own HR.out ((HS3.out.next (below_drewN (Below.refl _ _) _)).done _ _).1 ((HS3.out.next (below_drewN (Below.refl _ _) _)).done _ _).2)
      · cases hq3 : (B.dt == d)
        · go_upto_region 9 with fail
          go_quiet (fail)
          go_wp2_with fail
          exact bodyPost_ret (v := .tuple #[.agg #[.int .i64 c, .slice a1 n1 p1], .string (T []), .int .i64 34]) (by simp [results, Tryd.results23, go_sem, r1, r2, r3, r4]) rfl (bkput_own HR.out ((HS3.out.next (below_drewN (Below.refl _ _) _)).done _ _).1 ((HS3.out.next (below_drewN (Below.refl _ _) _)).done _ _).2)
        · exact (HNE.out hq2 hq3).elim
theorem bput_any (c : Int) (v : Value) (bs : List Blk) (k : Int) (d : List UInt8) (w : World) (hv : Blks w v bs) (hl : bs.length ≤ 1000000) (hd : d.length ≤ 1000000) (hK : KIn w) :
    Calls Tryd.prog 23 #[.agg #[.int .i64 c, v], .int .i64 k, .string (T d)] w (BkPutSays c (Blok.put c bs k d) w) :=
  (bput_own c v bs k d w hv hl hd hK).mono fun e w' ⟨v', h1, h2, h3⟩ => ⟨v', h1, blks_own h2, h3⟩
end Go.Proofs.YtpcieookddpkhaaDoor
