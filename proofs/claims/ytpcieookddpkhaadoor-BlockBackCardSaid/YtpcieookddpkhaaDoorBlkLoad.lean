/- What block.Load returns: Blok.load. Conditions: a text of at most 10^6 bytes; the 64 constants in the variable. -/
import Derived.Test.YtpcieookddpkhaaDoorBlkScan
import Derived.Test.YtpcieookddpkhaaDoorBlkRightP
set_option linter.unusedVariables false
set_option linter.unusedSimpArgs false
namespace Go.Proofs.YtpcieookddpkhaaDoor
open Go.RowKit Go.WideMaps Go.Maps
/-- The call's answer: a store with the given list, the bytes used, an error. -/
def BkLoadSays (r : Int × List Blk × Int × Int) (w : World) (e : Ending) (w' : World) : Prop :=
  ∃ v', e = .returned (.tuple #[.agg #[.int .i64 r.1, v'], .int .i64 r.2.2.1, .int .i64 r.2.2.2]) ∧ Blks w' v' r.2.1 ∧ Below w.heap.size w w'
theorem bkload_says {r : Int × List Blk × Int × Int} {c : Int} {bs : List Blk} {n E : Int} {w w' : World} {v' : Value} (h : r = (c, bs, n, E)) (hb : Blks w' v' bs) (hw : Below w.heap.size w w') :
    BkLoadSays r w (.returned (.tuple #[.agg #[.int .i64 c, v'], .int .i64 n, .int .i64 E])) w' := by
  subst h; exact ⟨v', rfl, hb, hw⟩
/-- The same, the list in memory of the call's own. -/
def BkLoadOwn (r : Int × List Blk × Int × Int) (w : World) (e : Ending) (w' : World) : Prop :=
  ∃ v', e = .returned (.tuple #[.agg #[.int .i64 r.1, v'], .int .i64 r.2.2.1, .int .i64 r.2.2.2]) ∧ w'.ownsRow w.heap.size 49 3 v' r.2.1.length (bcs r.2.1) ∧ Below w.heap.size w w'
theorem bkload_own {r : Int × List Blk × Int × Int} {c : Int} {bs : List Blk} {n E : Int} {w w' : World} {v' : Value} (h : r = (c, bs, n, E)) (hb : w'.ownsRow w.heap.size 49 3 v' bs.length (bcs bs)) (hw : Below w.heap.size w w') :
    BkLoadOwn r w (.returned (.tuple #[.agg #[.int .i64 c, v'], .int .i64 n, .int .i64 E])) w' := by
  subst h; exact ⟨v', rfl, hb, hw⟩
theorem blks_nil (w : World) : Blks w (.slice none 0 0) [] := ⟨none, 0, rfl, Nat.le_refl _, fun _ => rfl, fun j hj => by simp at hj⟩
theorem ownmap_below {H : Type} {w w' : World} {P : Program} {k : TypeId} {R : Value → Option (DataW H × List MemPlace)} {b n : Nat} {D : DataW H} (h : w.ownsMap P k R b n D) (hb : Below w.heap.size w w') : w'.ownsMap P k R b n D := by
  obtain ⟨es, clock, h1, h2⟩ := h
  exact ⟨es, clock, (hb.block _ (row_lt h1)).trans h1, h2⟩
theorem own_ne_map {w : World} {base : Nat} {e : TypeId} {size n p : Nat} {v : Value} {xs : List Value} {H : Type} {P : Program} {k : TypeId} {R : Value → Option (DataW H × List MemPlace)} {m : Nat} {D : DataW H} (h : w.ownsRow base e size v n xs) (hp : w.ownsMap P k R p m D) : v.ownBlock ≠ some p := by
  intro hv
  obtain ⟨es, clock, hp, _⟩ := hp
  rcases h.2 with ⟨rfl, _⟩ | ⟨g, cap, cur, rfl, hg, hrow, hrest⟩
  · simp [Value.ownBlock] at hv
  · simp only [Value.ownBlock, Option.some.injEq] at hv
    subst hv
    rw [hp] at hrow
    injection hrow with hrow
    cases hrow
/-- The cell of the result, the box of the store, the map. -/
def LdSt (w W : World) (g : Nat) (c : Int) (v : Value) (bs : List Blk) (D : DataW Unit) (k : Nat) : Prop :=
  W.heap[w.heap.size]? = some (.cells #[.int .i64 0, .slice none 0 0] 24 (0, 0)) ∧ W.heap[g]? = some (.cells #[.int .i64 c, v] 24 (0, 0)) ∧ w.heap.size + 1 ≤ g ∧
  W.ownsRow (w.heap.size + 1) 49 3 v bs.length (bcs bs) ∧ W.ownsMap Tryd.prog 9 (plainElem Tryd.prog 3) (g + 1) k D ∧ Below w.heap.size w W
theorem LdSt.next {w W W' : World} {g : Nat} {c : Int} {v : Value} {bs : List Blk} {D : DataW Unit} {k : Nat} (h : LdSt w W g c v bs D k) (hb : Below W.heap.size W W') : LdSt w W' g c v bs D k := by
  obtain ⟨h0, h1, h2, h3, h4, h5⟩ := h
  exact ⟨(hb.block _ (row_lt h0)).trans h0, (hb.block _ (row_lt h1)).trans h1, h2, own_below h3 hb, ownmap_below h4 hb, bnext h5 hb⟩
theorem LdSt.start {w w1 : World} {c : Int} (hb : Below (w.alloc (.cells #[.int .i64 0, .slice none 0 0] 24)).heap.size (w.alloc (.cells #[.int .i64 0, .slice none 0 0] 24)) w1) :
    LdSt w ((w1.alloc (.cells #[.int .i64 c, .slice none 0 0] 24)).alloc (.map #[] 0)) w1.heap.size c (.slice none 0 0) [] (.map []) 0 := by
  have r0 := after_alloc1_new hb
  have hbw := after_alloc1 hb
  have e : (w1.alloc (.cells #[.int .i64 c, .slice none 0 0] 24)).heap.size = w1.heap.size + 1 := by simp
  have hl := row_lt r0
  refine ⟨(Lib.alloc_old _ _ _ (by simp; omega)).trans ((Lib.alloc_old _ _ _ hl).trans r0), (Lib.alloc_old _ _ _ (by simp)).trans (heap_alloc_new _ _), hl, World.ownsRow_nil _ _ _ _, ?_, (hbw.alloc hbw.size _).alloc (by have := hbw.size; simp; omega) _⟩
  have := World.ownsMap_made (H := Unit) (w1.alloc (.cells #[.int .i64 c, .slice none 0 0] 24)) Tryd.prog 9 (plainElem (H := Unit) Tryd.prog 3)
  rw [e] at this
  exact this
theorem LdSt.reads {w W : World} {g : Nat} {c : Int} {v : Value} {bs : List Blk} {D : DataW Unit} {k : Nat} (h : LdSt w W g c v bs D k) :
    W.cell? ⟨w.heap.size, 0, none⟩ = some (.int .i64 0) ∧ W.cell? ⟨w.heap.size, 1, none⟩ = some (.slice none 0 0) ∧ W.frozen? ⟨w.heap.size, 0, none⟩ = false ∧ W.frozen? ⟨w.heap.size, 1, none⟩ = false ∧ W.cell? ⟨g, 0, none⟩ = some (.int .i64 c) ∧ W.cell? ⟨g, 1, none⟩ = some v ∧ W.frozen? ⟨g, 1, none⟩ = false := by
  obtain ⟨h0, h1, h2, h3, h4, h5⟩ := h
  refine ⟨?_, ?_, frozen_of_row W _ 0 _ _ h0, frozen_of_row W _ 1 _ _ h0, ?_, ?_, frozen_of_row W _ 1 _ _ h1⟩
  · rw [cell_of_row _ _ _ _ _ _ h0]; rfl
  · rw [cell_of_row _ _ _ _ _ _ h0]; rfl
  · rw [cell_of_row _ _ _ _ _ _ h1]; rfl
  · rw [cell_of_row _ _ _ _ _ _ h1]; rfl
theorem LdSt.done {w W : World} {g : Nat} {c : Int} {v : Value} {bs : List Blk} {D : DataW Unit} {k : Nat} (h : LdSt w W g c v bs D k) (a b : Value) : ((W.setCell ⟨w.heap.size, 0, none⟩ a).setCell ⟨w.heap.size, 1, none⟩ b).ownsRow w.heap.size 49 3 v bs.length (bcs bs) ∧ Below w.heap.size w ((W.setCell ⟨w.heap.size, 0, none⟩ a).setCell ⟨w.heap.size, 1, none⟩ b) := by
  obtain ⟨h0, h1, h2, h3, h4, h5⟩ := h
  exact ⟨World.ownsRow.mono (ownsRow_setCell_below (ownsRow_setCell_below h3 (a := ⟨w.heap.size, 0, none⟩) (Nat.lt_succ_self _) _) (a := ⟨w.heap.size, 1, none⟩) (Nat.lt_succ_self _) _) (by omega), (h5.setCell (p := ⟨w.heap.size, 0, none⟩) (Nat.le_refl _) _).setCell (p := ⟨w.heap.size, 1, none⟩) (Nat.le_refl _) _⟩
theorem LdSt.slice {w W : World} {g : Nat} {c : Int} {v : Value} {bs : List Blk} {D : DataW Unit} {k : Nat} (h : LdSt w W g c v bs D k) : ∃ a n cp, v = .slice a n cp := by
  obtain ⟨h0, h1, h2, h4, h5⟩ := h
  rcases h4.2 with ⟨e, _⟩ | ⟨g', cap', cur, e, _⟩
  · exact ⟨_, _, _, e⟩
  · exact ⟨_, _, _, e⟩
theorem LdSt.len {w W : World} {g : Nat} {c : Int} {a : Option Addr} {n cp : Nat} {bs : List Blk} {D : DataW Unit} {k : Nat} (h : LdSt w W g c (.slice a n cp) bs D k) : n = bs.length := by
  obtain ⟨h0, h1, h2, h4, h5⟩ := h
  rcases h4.2 with ⟨e, e2⟩ | ⟨g', cap', cur, e, _⟩
  · cases e; omega
  · cases e; rfl
/-- Behind an append to the list. -/
theorem LdSt.push {w W w6 : World} {g : Nat} {c : Int} {v v' : Value} {bs : List Blk} {D : DataW Unit} {k : Nat} {x : Blk} {o : Obj} (h : LdSt w W g c v bs D k) (hown : w6.ownsRow (w.heap.size + 1) 49 3 v' (bs.length + 1) (bcs bs ++ bcs [x])) (hg : (W.alloc o).grownBy w6 v.ownBlock) :
    w6.heap[g]? = some (.cells #[.int .i64 c, v] 24 (0, 0)) ∧ LdSt w (w6.setCell ⟨g, 1, none⟩ v') g c v' (bs ++ [x]) D k := by
  obtain ⟨h0, h1, h2, h3, h4, h5⟩ := h
  have kp : ∀ (b : Nat) (cs : Array Value), W.heap[b]? = some (.cells cs 24 (0, 0)) → w6.heap[b]? = some (.cells cs 24 (0, 0)) := fun b cs hb =>
    (hg.block b (by have := row_lt hb; simp; omega) (fun e => own_ne h3 hb (by decide) e.symm)).trans ((Lib.alloc_old _ _ _ (row_lt hb)).trans hb)
  have g0 := kp _ _ h0
  have g1 := kp _ _ h1
  have hm : w6.ownsMap Tryd.prog 9 (plainElem Tryd.prog 3) (g + 1) k D := (h4.alloc o).kept hg (fun e => own_ne_map h3 h4 e.symm)
  refine ⟨g1, ?_, heap_setCell_same w6 g 1 _ _ v' g1, h2, ?_, ?_, ?_⟩
  · rw [Below.heap_setCell _ _ _ _ (by simp; omega)]; exact g0
  · have := own_set hown g1 (by decide) 1 v'
    rw [bcs_append]; simpa using this
  · obtain ⟨es, clock, e1, e2⟩ := hm
    exact ⟨es, clock, by rw [Below.heap_setCell _ _ _ _ (by simp)]; exact e1, e2⟩
  · exact ((h5.alloc h5.size o).grown hg (by have := h5.size; simp; omega) (fun k hk => by have := (h3.lt k hk).1; omega)).setCell (p := ⟨g, 1, none⟩) (by simp; omega) _
/-- Behind a store into the map. -/
theorem LdSt.put {w W w' : World} {g : Nat} {c : Int} {v : Value} {bs : List Blk} {D D' : DataW Unit} {k : Nat} (h : LdSt w W g c v bs D k) (hm : w'.ownsMap Tryd.prog 9 (plainElem Tryd.prog 3) (g + 1) (k + 1) D') (hg : W.grownBy w' (some (g + 1))) : LdSt w w' g c v bs D' (k + 1) := by
  obtain ⟨h0, h1, h2, h3, h4, h5⟩ := h
  exact ⟨(hg.block _ (row_lt h0) (by simp; omega)).trans h0, (hg.block _ (row_lt h1) (by simp)).trans h1, h2, h3.kept hg (.inr (own_ne_map h3 h4)), hm, h5.grown hg h5.size (fun k hk => by cases hk; omega)⟩
set_option maxRecDepth 20000 in
set_option maxHeartbeats 4000000 in
theorem load_own (l : List UInt8) (most : Int) (w : World) (hl : l.length ≤ 1000000) (hK : KIn w) :
    Calls Tryd.prog 25 #[.string (T l), .int .i64 most] w (BkLoadOwn (Blok.load l most) w) := by
  have hmm := @run_makeMap Tryd.prog
  have HN := Lib.hid (fun w => new_any most w)
  have hcap := Blok.capOf_ge most
  have HA0 := Lib.hid (Blok.at_start most l)
  have HKK := Lib.hid (fun (w' : World) (hb : Below w.heap.size w w') => hK.below hb)
  have HX := Lib.hid (fun (u : Nat) (h : u ≤ l.length) => (show (T l).extract u l.length = T (l.drop u) from by rw [extract_list, List.take_of_length_le (by simp)]))
  clear hK
  go_enter Tryd.func25, Tryd.ntmps25
  go_wp2_with fail
  refine (HN.out _).mono ?_; rintro e w1 ⟨rfl, b1⟩
  have HL0 := Lib.hid (LdSt.start (c := Blok.capOf most) b1)
  clear b1 HN
  go_wp2_with fail
  go_loopw [8] (fun i wr => ∃ (u k : Nat) (v : Value) (acc : List Blk) (D : DataW Unit), i = .int .i64 (u : Int) ∧ Hid (Blok.At most l acc u) ∧ Hid (Blok.Seen2 D acc k) ∧ Hid (LdSt w wr w1.heap.size (Blok.capOf most) v acc D k) ∧ Hid (k ≤ u)) (fun i _ => l.length - (intOf i).toNat)
  case atStart => exact ⟨0, 0, _, [], _, rfl, HA0, Blok.seen2_start, HL0, Nat.le_refl _⟩
  case round =>
    obtain ⟨u, k, v, acc, D, rfl, HA, HSN, HL, HKU⟩ := hrel
    have hul : u ≤ l.length := HA.out.1
    have hui : (u : Int) ≤ l.length := by omega
    have hx := HX.out u hul
    have HRC := Lib.hid (fun (W : World) (h : LdSt w W w1.heap.size (Blok.capOf most) v acc D k) => record_any (l.drop u) W (by rw [List.length_drop]; omega) (HKK.out W h.2.2.2.2.2))
    obtain ⟨ra, rn, rc, rfl⟩ := HL.out.slice
    obtain rfl := HL.out.len
    go_wp2_with fail
    refine (HRC.out _ HL.out).mono ?_; rintro e w2 ⟨B, o, rfl, hs, b2⟩
    have HL2 := Lib.hid (HL.out.next (b2.alloc b2.size (.cells #[.string (T B.sc), .int .i64 B.kd, .string (T B.dt)] 49)))
    have h10 := heap_alloc_new w2 (.cells #[.string (T B.sc), .int .i64 B.kd, .string (T B.dt)] 49)
    have hv1 : (Value.slice ra acc.length rc).ownBlock ≠ some w2.heap.size := fun e => by have := (HL.out.2.2.2.1.lt _ e).2; have := b2.size; omega
    have hgb : w1.heap.size < w2.heap.size := Nat.lt_of_lt_of_le (row_lt HL.out.2.1) b2.size
    clear HRC HL b2
    go_upto_region 4 with fail
    have hne := Nat.ne_of_lt (row_lt h10)
    generalize w2.alloc (.cells #[.string (T B.sc), .int .i64 B.kd, .string (T B.dt)] 49) = W at *
    have e0 : W.cell? ⟨w2.heap.size, 0, none⟩ = some (.string (T B.sc)) := by rw [cell_of_row _ _ _ _ _ _ h10]; rfl
    have e1 : W.cell? ⟨w2.heap.size, 1, none⟩ = some (.int .i64 B.kd) := by rw [cell_of_row _ _ _ _ _ _ h10]; rfl
    have e2 : W.cell? ⟨w2.heap.size, 2, none⟩ = some (.string (T B.dt)) := by rw [cell_of_row _ _ _ _ _ _ h10]; rfl
    have hgw : w1.heap.size ≠ w.heap.size := by have := HL2.out.2.2.1; omega
    have hgw2 : w.heap.size ≠ w1.heap.size := fun e => hgw e.symm
    cases o
    · have hs' : Blok.sound (l.drop u) = none := by simpa using hs
      have HR0 := Lib.hid (Blok.at_stop HA.out hs')
      have HHD := Lib.hid (fun W => head_any (l.drop u) W (by rw [List.length_drop]; omega))
      unfold HeadSays at HHD
      obtain ⟨m0, m1⟩ := Blok.hN_bounds (l.drop u)
      obtain ⟨m, hm⟩ := Int.eq_ofNat_of_zero_le m0
      have HBR := Lib.hid (show Blok.broken l u = (Blok.hOK (l.drop u) && (Blok.sound (l.drop (u + (39 + m)))).isSome) from by unfold Blok.broken; rw [hm]; rfl)
      have HHF := Lib.hid (fun h : Blok.hOK (l.drop u) = true => (Blok.isHead_yes (Blok.hOK_head h)).1)
      rw [hm] at HHD m1
      have hm2 : m < 65536 := by omega
      clear hs hs' m0 m1 hm e0 e1 e2 h10
      generalize Blok.hK (l.drop u) = K at *
      generalize Blok.hS (l.drop u) = S at *
      cases hok : Blok.hOK (l.drop u)
      · have HR := Lib.hid (HR0.out.trans (if_neg (by rw [HBR.out, hok]; simp)))
        rw [hok] at HHD
        go_wp2_with fail
        refine (HHD.out _).mono ?_; rintro e w3 ⟨rfl, b3⟩
        have HL3 := Lib.hid (HL2.out.next b3)
        obtain ⟨r1, r2, r3, r4, r5, r6, r7⟩ := HL3.out.reads
        clear b3
        go_wp2_with fail
        exact bodyPost_ret (v := .tuple #[.agg #[.int .i64 (Blok.capOf most), .slice ra acc.length rc], .int .i64 (u : Int), .int .i64 0]) (by simp [results, Tryd.results25, go_sem, r1, r2]) rfl (bkload_own HR.out (HL3.out.done _ _).1 (HL3.out.done _ _).2)
      · have h39 := HHF.out hok
        rw [List.length_drop] at h39
        rw [hok] at HHD
        by_cases hfit : u + (39 + m) ≤ l.length
        · have hf1 : (m : Int) ≤ (l.length : Int) - u - 39 := by omega
          have hf2 : (u : Int) + 39 + m ≤ l.length := by omega
          have hf3 : u + 39 + m ≤ l.length := by omega
          have hx2 := HX.out (u + 39 + m) hf3
          have HRC := Lib.hid (fun (W : World) (h : LdSt w W w1.heap.size (Blok.capOf most) (.slice ra acc.length rc) acc D k) => record_any (l.drop (u + 39 + m)) W (by rw [List.length_drop]; omega) (HKK.out W h.2.2.2.2.2))
          go_wp2_with fail
          refine (HHD.out _).mono ?_; rintro e w3 ⟨rfl, b3⟩
          have HL3a := Lib.hid (HL2.out.next b3)
          clear b3
          go_wp2_with fail
          refine (HRC.out _ HL3a.out).mono ?_; rintro e w4 ⟨B2, o2, rfl, hs2, b4⟩
          have HL3 := Lib.hid (HL3a.out.next (b4.alloc b4.size (.cells #[.string (T B2.sc), .int .i64 B2.kd, .string (T B2.dt)] 49)))
          clear b4 HRC
          go_upto_region 14 with fail
          generalize w4.alloc (.cells #[.string (T B2.sc), .int .i64 B2.kd, .string (T B2.dt)] 49) = W4 at *
          obtain ⟨r1, r2, r3, r4, r5, r6, r7⟩ := HL3.out.reads
          have h3 : u + (39 + m) = u + 39 + m := by omega
          cases o2
          · have HR := Lib.hid (HR0.out.trans (if_neg (by rw [HBR.out, hok, h3, hs2]; simp)))
            clear hs2 h3
            go_wp2_with fail
            exact bodyPost_ret (v := .tuple #[.agg #[.int .i64 (Blok.capOf most), .slice ra acc.length rc], .int .i64 (u : Int), .int .i64 0]) (by simp [results, Tryd.results25, go_sem, r1, r2]) rfl (bkload_own HR.out (HL3.out.done _ _).1 (HL3.out.done _ _).2)
          · have HR := Lib.hid (HR0.out.trans (if_pos (by rw [HBR.out, hok, h3, hs2]; rfl)))
            clear hs2 h3
            go_wp2_with fail
            exact bodyPost_ret (v := .tuple #[.agg #[.int .i64 (0), .slice none 0 0], .int .i64 0, .int .i64 34]) (by simp [results, Tryd.results25, go_sem, r1, r2]) rfl (bkload_own HR.out (World.ownsRow_nil _ _ _ _) (HL3.out.done _ _).2)
        · have hf1 : (l.length : Int) - u - 39 < m := by omega
          have HR := Lib.hid (HR0.out.trans (if_neg (by rw [HBR.out, hok, List.drop_of_length_le (by omega), Blok.sound_nil]; simp)))
          go_wp2_with fail
          refine (HHD.out _).mono ?_; rintro e w3 ⟨rfl, b3⟩
          have HL3 := Lib.hid (HL2.out.next b3)
          obtain ⟨r1, r2, r3, r4, r5, r6, r7⟩ := HL3.out.reads
          clear b3
          go_wp2_with fail
          exact bodyPost_ret (v := .tuple #[.agg #[.int .i64 (Blok.capOf most), .slice ra acc.length rc], .int .i64 (u : Int), .int .i64 0]) (by simp [results, Tryd.results25, go_sem, r1, r2]) rfl (bkload_own HR.out (HL3.out.done _ _).1 (HL3.out.done _ _).2)
    · rw [if_pos rfl] at hs
      have hf := Blok.sound_fits hs
      have hkey : keyOf Tryd.prog 9 (.string (T B.sc)) = some (.string B.sc) := keyOf_string_mk Tryd.underlying9 (by rw [T_size, hf.2.1]; unfold maxLen; omega)
      obtain ⟨q, hrun, hat, _⟩ := HL2.out.2.2.2.2.1.lookup_int blaw Tryd.underlying53 Tryd.underlying3 (bzero _) hkey
      obtain ⟨q', h1, h2, h3, h4⟩ := HSN.out.2 B.sc
      rw [hat] at h1
      injection h1 with h1
      injection h1 with _ h1
      subst h1
      obtain ⟨HN1, HN2, HN3⟩ := Blok.at_next HA.out hs
      have H10 := Lib.hid h10
      have HKEY := Lib.hid hkey
      rw [List.length_drop] at hf
      have hdl : B.dt.length ≤ 1000000 := by omega
      have hdu : u + (39 + B.dt.length) ≤ 1000000 := by omega
      have hdi0 : (39 : Int) + (B.dt.length : Int) ≤ 1000000 := by omega
      have hdi : (u : Int) + (39 + (B.dt.length : Int)) ≤ 1000000 := by omega
      have hk1 : k ≤ 1000000 := by have := HKU.out; omega
      have hk2 : k < maxLen := by unfold maxLen; omega
      have hacc : acc.length ≤ 1000000 := by have := HA.out.2.1; omega
      have hul2 : u < l.length := by omega
      clear h10 hkey hf
      by_cases hq : q = 0
      · subst hq
        have hix : ¬ 0 ≤ Blok.idx B.sc acc := fun h => absurd (h4.2 h) (by omega)
        obtain ⟨r1, r2, r3, r4, r5, r6, r7⟩ := HL2.out.reads
        by_cases hc : Blok.capOf most ≤ acc.length
        · have HR := Lib.hid (HN2 hix hc)
          have HD := Lib.hid (HL2.out.done (.int .i64 0) (.slice none 0 0)).2
          clear HN1 HN2 HN3 h2 h3 h4 hat
          go_wp2_with fail
          exact bodyPost_ret (v := .tuple #[.agg #[.int .i64 0, .slice none 0 0], .int .i64 0, .int .i64 22]) (by simp [results, Tryd.results25, go_sem, r1, r2]) rfl (bkload_own HR.out (World.ownsRow_nil _ _ _ _) HD.out)
        · have HA1 := Lib.hid (HN3 hix hc)
          have HSN2 := Lib.hid (Blok.seen2_put HSN.out hat (fun x => Blok.idx_app x acc B))
          have HAT := Lib.hid hat
          obtain ⟨i0, hi0, hz0, hz1, hz2⟩ := info_parts (P := Tryd.prog) (e := 49) (z := .agg #[.string ByteArray.empty, .int .i64 0, .string ByteArray.empty]) (size := 3) (bytes := 40) (by kernel_rfl)
          clear HN1 HN2 HN3 h2 h3 h4 hat
          go_wp2_with (at_builtin; refine wpList_append_own _ rfl _ _ 22 rfl (w.heap.size + 1) 49 i0 (.agg #[.string ByteArray.empty, .int .i64 0, .string ByteArray.empty]) 3 40 Tryd.underlying22 hi0 hz0 hz1 hz2 rfl (by decide) (.slice ra acc.length rc) acc.length (bcs acc) rfl ?c0 ⟨W.heap.size, 0, none⟩ 1 1 (bcs [B]) rfl ?c1 ?c2 ?c3 ?c4 ?c5 ?c6 ?_)
          case c0 => exact HL2.out.2.2.2.1.alloc _
          case c1 => rfl
          case c2 =>
            intro j x hj
            match j, hj with
            | 0, hj => simp [bcs] at hj; subst hj; simp [Addr.add]
            | 1, hj => simp [bcs] at hj; subst hj; simp [Addr.add]
            | 2, hj => simp [bcs] at hj; subst hj; simp [Addr.add]
            | j + 3, hj => simp [bcs] at hj
          case c3 => exact bcs_one _
          case c4 => unfold maxLen; omega
          case c5 => omega
          case c6 => have := HL2.out.2.2.1; have := row_lt H10.out; simp; omega
          intro v6 w6 hown hgrow _
          obtain ⟨g2, hst6⟩ := HL2.out.push hown hgrow
          have hr6 := (hgrow.block _ (by have := row_lt H10.out; simp; omega) (fun e => hv1 e.symm)).trans ((Lib.alloc_old _ _ _ (row_lt H10.out)).trans H10.out)
          have hr7 : (w6.setCell ⟨w1.heap.size, 1, none⟩ v6).heap[w2.heap.size]? = _ := (Below.heap_setCell _ _ _ _ (by simp; omega)).trans hr6
          obtain ⟨a6, n6, p6, rfl⟩ := hst6.slice
          have d1 : w6.cell? ⟨w1.heap.size, 1, none⟩ = some (.slice ra acc.length rc) := by rw [cell_of_row _ _ _ _ _ _ g2]; rfl
          have fz := frozen_of_row w6 w1.heap.size 1 _ _ g2
          clear hown hgrow hr6 g2 r1 r2 r3 r4 r5 r6 r7 e0 e1 e2 hrun
          go_upto_region 9 with fail
          generalize w6.setCell ⟨w1.heap.size, 1, none⟩ (.slice a6 n6 p6) = W7 at *
          have HL7 := Lib.hid hst6
          clear hst6 d1 fz
          have HROW := Lib.hid hr7
          obtain ⟨q2, hrun2, hat2, _⟩ := HL7.out.2.2.2.2.1.lookup_int blaw Tryd.underlying53 Tryd.underlying3 (bzero _) HKEY.out
          rw [HAT.out] at hat2
          injection hat2 with hat2
          injection hat2 with _ hat2
          subst hat2
          have hmne : w2.heap.size ≠ w1.heap.size + 1 := fun e => by
            obtain ⟨es, clock, hm, _⟩ := HL7.out.2.2.2.2.1
            have := HROW.out
            rw [e, hm] at this
            injection this with this
            cases this
          have f0 : W7.cell? ⟨w2.heap.size, 0, none⟩ = some (.string (T B.sc)) := by rw [cell_of_row _ _ _ _ _ _ HROW.out]; rfl
          go_wp2_with (at_mapUpdate; refine wpList_mapUpdate_own _ rfl _ _ _ 53 rfl 9 3 blaw Tryd.underlying53 _ (w1.heap.size + 1) k _ rfl HL7.out.2.2.2.2.1 hk2 _ _ _ rfl rfl HKEY.out _ [] (plainElem_int Tryd.underlying3 (by decide)) ?_)
          intro w8 hown8 hgrow8
          have HL8 := Lib.hid (HL7.out.put hown8 hgrow8)
          have hr8 := (hgrow8.block _ (row_lt HROW.out) (by simp; exact hmne)).trans HROW.out
          have g2 : w8.cell? ⟨w2.heap.size, 2, none⟩ = some (.string (T B.dt)) := by rw [cell_of_row _ _ _ _ _ _ hr8]; rfl
          clear hown8 hgrow8 hr8
          go_wp2_with fail
          go_roundw
          case rel => exact ⟨u + (39 + B.dt.length), k + 1, _, _, _, by go_num, HA1, HSN2, HL8, (by have := HKU.out; show k + 1 ≤ u + (39 + B.dt.length); omega)⟩
          case measure => simp [intOf]; omega
      · have hq1 : 0 < q := by omega
        have hqb : (q == 0) = false := beq_eq_false_iff_ne.2 hq
        have hix := h4.1 hq1
        have HA1 := Lib.hid (HN1 hix)
        have HSN2 := Lib.hid (Blok.seen2_put HSN.out hat (fun x => ⟨fun h => Or.inl h, fun h => h.elim id (fun e => e ▸ hix)⟩))
        have HAT := Lib.hid hat
        clear HN1 HN2 HN3 h4 hat
        have HROW := Lib.hid H10.out
        obtain ⟨q2, hrun2, hat2, _⟩ := HL2.out.2.2.2.2.1.lookup_int blaw Tryd.underlying53 Tryd.underlying3 (bzero _) HKEY.out
        rw [HAT.out] at hat2
        injection hat2 with hat2
        injection hat2 with _ hat2
        subst hat2
        have hmne : w2.heap.size ≠ w1.heap.size + 1 := fun e => by
          obtain ⟨es, clock, hm, _⟩ := HL2.out.2.2.2.2.1
          have := HROW.out
          rw [e, hm] at this
          injection this with this
          cases this
        have f0 : W.cell? ⟨w2.heap.size, 0, none⟩ = some (.string (T B.sc)) := by rw [cell_of_row _ _ _ _ _ _ HROW.out]; rfl
        go_wp2_with (at_mapUpdate; refine wpList_mapUpdate_own _ rfl _ _ _ 53 rfl 9 3 blaw Tryd.underlying53 _ (w1.heap.size + 1) k _ rfl HL2.out.2.2.2.2.1 hk2 _ _ _ rfl rfl HKEY.out _ [] (plainElem_int Tryd.underlying3 (WalkArith.wf_i64 (by omega))) ?_)
        intro w8 hown8 hgrow8
        have HL8 := Lib.hid (HL2.out.put hown8 hgrow8)
        have hr8 := (hgrow8.block _ (row_lt HROW.out) (by simp; exact hmne)).trans HROW.out
        have g2 : w8.cell? ⟨w2.heap.size, 2, none⟩ = some (.string (T B.dt)) := by rw [cell_of_row _ _ _ _ _ _ hr8]; rfl
        clear hown8 hgrow8 hr8 hrun hrun2
        go_wp2_with fail
        go_roundw
        case rel => exact ⟨u + (39 + B.dt.length), k + 1, _, _, _, by go_num, HA1, HSN2, HL8, (by have := HKU.out; show k + 1 ≤ u + (39 + B.dt.length); omega)⟩
        case measure => simp [intOf]; omega
theorem load_any (l : List UInt8) (most : Int) (w : World) (hl : l.length ≤ 1000000) (hK : KIn w) :
    Calls Tryd.prog 25 #[.string (T l), .int .i64 most] w (BkLoadSays (Blok.load l most) w) :=
  (load_own l most w hl hK).mono fun e w' ⟨v', h1, h2, h3⟩ => ⟨v', h1, blks_own h2, h3⟩
end Go.Proofs.YtpcieookddpkhaaDoor
