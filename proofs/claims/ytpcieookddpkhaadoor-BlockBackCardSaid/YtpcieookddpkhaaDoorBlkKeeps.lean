/- The law BlockKeeps: it returns true. Conditions: the slice holds the given items; the 64 constants in the variable. -/
import Derived.Test.YtpcieookddpkhaaDoorBlkAlive
import Derived.Test.YtpcieookddpkhaaDoorOpenStore
import Derived.Deep.RegionHeldLaw
set_option linter.unusedVariables false
set_option linter.unusedSimpArgs false
namespace Go.Proofs.YtpcieookddpkhaaDoor
open Go.RowKit
/-- The cells of a list of texts. -/
def tcs (l : List (List UInt8)) : List Value := l.map fun x => .string (T x)
theorem tcs_length (l : List (List UInt8)) : (tcs l).length = l.length * 1 := by simp [tcs]
theorem tcs_one (l : List (List UInt8)) : ∀ u ∈ tcs l, u.oneCell' = true := by
  intro u hu; simp only [tcs, List.mem_map] at hu; obtain ⟨_, _, rfl⟩ := hu; rfl
namespace Blok
/-- What stands behind k calls of Put. -/
def Inv (C : Int) (l : List Itm) (k : Nat) (bs : List Blk) (scs : List (List UInt8)) : Prop :=
  Wf bs ∧ (bs.length : Int) ≤ C ∧ bs.length ≤ k ∧ scs.length = k ∧ ∀ j (h : j < scs.length) (h2 : j < l.length), scs[j] = [] ∨ (scs[j] = scr l[j].kd l[j].dt ∧ made l[j].kd l[j].dt ∈ bs)
theorem inv_start {C : Int} (hC : 1 ≤ C) (l : List Itm) : Inv C l 0 [] [] := ⟨wf_nil, by simp; omega, Nat.le_refl _, rfl, fun j h => by simp at h⟩
theorem inv_step {C : Int} {l : List Itm} {k : Nat} {bs : List Blk} {scs : List (List UInt8)} (h : Inv C l k bs scs) (hk : k < l.length) :
    Inv C l (k + 1) (put C bs l[k].kd l[k].dt).1 (scs ++ [(put C bs l[k].kd l[k].dt).2.1]) ∧ ((put C bs l[k].kd l[k].dt).2.2 ≠ 0 → (put C bs l[k].kd l[k].dt).1 = bs ∧ (put C bs l[k].kd l[k].dt).2.1 = []) := by
  obtain ⟨h1, h2, h3, h4, h5⟩ := h
  obtain ⟨p1, p2, p3, p4, p5, p6⟩ := wf_put (cap := C) l[k].kd l[k].dt h1 h2
  refine ⟨⟨p1, p2, by omega, by simp [h4], fun j hj hj2 => ?_⟩, p6⟩
  rw [List.length_append, List.length_singleton] at hj
  rcases Nat.lt_or_ge j scs.length with h | h
  · rw [List.getElem_append_left h]
    rcases h5 j h hj2 with e | ⟨e, hm⟩
    · exact .inl e
    · exact .inr ⟨e, p4 _ hm⟩
  · obtain rfl : j = scs.length := by omega
    rw [List.getElem_append_right (Nat.le_refl _)]
    simp only [Nat.sub_self, List.getElem_cons_zero]
    subst h4
    by_cases h0 : (put C bs l[scs.length].kd l[scs.length].dt).2.2 = 0
    · exact .inr (p5 h0)
    · exact .inl (p6 h0).2
end Blok
/-- The box of the store, the scores. -/
def KpSt (w W : World) (g : Nat) (C : Int) (v : Value) (bs : List Blk) (sv : Value) (scs : List (List UInt8)) : Prop :=
  BoxSt g C v bs W ∧ W.ownsRow w.heap.size 9 1 sv scs.length (tcs scs) ∧ w.heap.size ≤ g ∧ Below w.heap.size w W
theorem KpSt.next {w W W' : World} {g : Nat} {C : Int} {v : Value} {bs : List Blk} {sv : Value} {scs : List (List UInt8)} (h : KpSt w W g C v bs sv scs) (hb : Below W.heap.size W W') : KpSt w W' g C v bs sv scs :=
  ⟨h.1.next hb, own_below h.2.1 hb, h.2.2.1, bnext h.2.2.2 hb⟩
theorem KpSt.store {w W : World} {g : Nat} {C : Int} {v v' : Value} {bs bs' : List Blk} {sv : Value} {scs : List (List UInt8)} (h : KpSt w W g C v bs sv scs) {base : Nat} (hown : W.ownsRow base 49 3 v' bs'.length (bcs bs')) :
    KpSt w ((W.setCell ⟨g, 0, none⟩ (.int .i64 C)).setCell ⟨g, 1, none⟩ v') g C v' bs' sv scs := by
  have h0 := h.1.1
  have h1 := heap_setCell_same W g 0 _ _ (.int .i64 C) h0
  exact ⟨h.1.store hown, own_set (own_set h.2.1 h0 (by decide) 0 _) h1 (by decide) 1 _, h.2.2.1, (h.2.2.2.setCell (p := ⟨g, 0, none⟩) h.2.2.1 _).setCell (p := ⟨g, 1, none⟩) h.2.2.1 _⟩
theorem own_apart {W : World} {b1 b2 n1 n2 s1 s2 : Nat} {e1 e2 : TypeId} {v1 v2 : Value} {x1 x2 : List Value} (h1 : W.ownsRow b1 e1 s1 v1 n1 x1) (h2 : W.ownsRow b2 e2 s2 v2 n2 x2) (hne : e1 ≠ e2) : v1.ownBlock = none ∨ v1.ownBlock ≠ v2.ownBlock := by
  rcases h2.2 with ⟨rfl, _⟩ | ⟨g, cap, cur, rfl, hg, hrow, hrest⟩
  · cases h : v1.ownBlock
    · exact .inl rfl
    · exact .inr (by simp [Value.ownBlock])
  · exact .inr (own_ne h1 hrow hne)
theorem KpSt.push {w W w6 : World} {g : Nat} {C : Int} {v : Value} {bs : List Blk} {sv sv' : Value} {scs : List (List UInt8)} {x : List UInt8} {o : Obj} (h : KpSt w W g C v bs sv scs) (hown : w6.ownsRow w.heap.size 9 1 sv' (scs.length + 1) (tcs scs ++ tcs [x])) (hg : (W.alloc o).grownBy w6 sv.ownBlock) :
    KpSt w w6 g C v bs sv' (scs ++ [x]) := by
  obtain ⟨⟨h0, base, h1⟩, h2, h3, h4⟩ := h
  refine ⟨⟨(hg.block _ (by have := row_lt h0; simp; omega) (fun e => own_ne h2 h0 (by decide) e.symm)).trans ((Lib.alloc_old _ _ _ (row_lt h0)).trans h0), base, (h1.alloc o).kept hg (own_apart h1 h2 (by decide))⟩, ?_, h3, (h4.alloc h4.size o).grown hg (by have := h4.size; simp; omega) (fun k hk => (h2.lt k hk).1)⟩
  have e : tcs (scs ++ [x]) = tcs scs ++ tcs [x] := by simp [tcs]
  rw [e]; simpa using hown
theorem kp_slice {W : World} {base n : Nat} {e : TypeId} {v : Value} {xs : List Value} (h : W.ownsRow base e 1 v n xs) : ∃ a cp, v = .slice a n cp := by
  rcases h.2 with ⟨e, e0⟩ | ⟨g', cap', cur, e, _⟩
  · exact ⟨none, 0, by rw [e0]; exact e⟩
  · exact ⟨_, _, e⟩
/-- What the drawn regions of a round read. -/
def KpR (w W : World) (g : Nat) (C : Int) (v : Value) (bs : List Blk) (sv : Value) (scs : List (List UInt8)) (x o : Nat) (it : Itm) : Prop :=
  W.cell? ⟨g, 0, none⟩ = some (.int .i64 C) ∧ W.cell? ⟨g, 1, none⟩ = some v ∧ W.cell? ⟨x, o, none⟩ = some (.int .i64 it.kd) ∧ W.cell? ⟨x, o + 1, none⟩ = some (.string (T it.dt)) ∧ KpSt w W g C v bs sv scs
theorem KpR.mk {w W : World} {g : Nat} {C : Int} {v : Value} {bs : List Blk} {sv : Value} {scs : List (List UInt8)} {x o : Nat} {it : Itm} (h : KpSt w W g C v bs sv scs) (hx : x < w.heap.size) (c0 : w.cell? ⟨x, o, none⟩ = some (.int .i64 it.kd)) (c1 : w.cell? ⟨x, o + 1, none⟩ = some (.string (T it.dt))) : KpR w W g C v bs sv scs x o it :=
  ⟨h.1.reads.1, h.1.reads.2.1, by rw [h.2.2.2.cell (p := ⟨x, o, none⟩) hx]; exact c0, by rw [h.2.2.2.cell (p := ⟨x, o + 1, none⟩) hx]; exact c1, h⟩
theorem KpR.alloc {w W : World} {g : Nat} {C : Int} {v : Value} {bs : List Blk} {sv : Value} {scs : List (List UInt8)} {x o : Nat} {it : Itm} (h : W.cell? ⟨g, 0, none⟩ = some (.int .i64 C) ∧ W.cell? ⟨g, 1, none⟩ = some v ∧ W.cell? ⟨x, o, none⟩ = some (.int .i64 it.kd) ∧ W.cell? ⟨x, o + 1, none⟩ = some (.string (T it.dt)) ∧ KpSt w W g C v bs sv scs) (b : Obj) :
    (W.alloc b).cell? ⟨g, 0, none⟩ = some (.int .i64 C) ∧ (W.alloc b).cell? ⟨g, 1, none⟩ = some v ∧ (W.alloc b).cell? ⟨x, o, none⟩ = some (.int .i64 it.kd) ∧ (W.alloc b).cell? ⟨x, o + 1, none⟩ = some (.string (T it.dt)) ∧ KpSt w (W.alloc b) g C v bs sv scs := by
  obtain ⟨h0, h1, h2, h3, h4⟩ := h
  refine ⟨?_, ?_, ?_, ?_, h4.next ((Below.refl _ _).alloc (Nat.le_refl _) _)⟩
  · rw [World.cell?_alloc_lt _ _ _ (block_lt_of_cell h0)]; exact h0
  · rw [World.cell?_alloc_lt _ _ _ (block_lt_of_cell h1)]; exact h1
  · rw [World.cell?_alloc_lt _ _ _ (block_lt_of_cell h2)]; exact h2
  · rw [World.cell?_alloc_lt _ _ _ (block_lt_of_cell h3)]; exact h3
theorem KpR.next {w W W' : World} {g : Nat} {C : Int} {v : Value} {bs : List Blk} {sv : Value} {scs : List (List UInt8)} {x o : Nat} {it : Itm} (h : W.cell? ⟨g, 0, none⟩ = some (.int .i64 C) ∧ W.cell? ⟨g, 1, none⟩ = some v ∧ W.cell? ⟨x, o, none⟩ = some (.int .i64 it.kd) ∧ W.cell? ⟨x, o + 1, none⟩ = some (.string (T it.dt)) ∧ KpSt w W g C v bs sv scs) (hb : Below W.heap.size W W') :
    W'.cell? ⟨g, 0, none⟩ = some (.int .i64 C) ∧ W'.cell? ⟨g, 1, none⟩ = some v ∧ W'.cell? ⟨x, o, none⟩ = some (.int .i64 it.kd) ∧ W'.cell? ⟨x, o + 1, none⟩ = some (.string (T it.dt)) ∧ KpSt w W' g C v bs sv scs := by
  obtain ⟨h0, h1, h2, h3, h4⟩ := h
  refine ⟨?_, ?_, ?_, ?_, h4.next hb⟩
  · rw [hb.cell (p := ⟨g, 0, none⟩) (block_lt_of_cell h0)]; exact h0
  · rw [hb.cell (p := ⟨g, 1, none⟩) (block_lt_of_cell h1)]; exact h1
  · rw [hb.cell (p := ⟨x, o, none⟩) (block_lt_of_cell h2)]; exact h2
  · rw [hb.cell (p := ⟨x, o + 1, none⟩) (block_lt_of_cell h3)]; exact h3
theorem kstore_reads {W : World} {g : Nat} {c : Int} {v : Value} (h : W.heap[g]? = some (.cells #[.int .i64 c, v] 24 (0, 0))) : W.cell? ⟨g, 0, none⟩ = some (.int .i64 c) ∧ W.cell? ⟨g, 1, none⟩ = some v := by
  refine ⟨?_, ?_⟩
  · rw [cell_of_row _ _ _ _ _ _ h]; rfl
  · rw [cell_of_row _ _ _ _ _ _ h]; rfl
theorem KpSt.setz {w W : World} {g p : Nat} {C : Int} {v : Value} {bs : List Blk} {sv : Value} {scs : List (List UInt8)} {cs : Array Value} (h : KpSt w W g C v bs sv scs) (hz : W.heap[p]? = some (.cells cs 24 (0, 0))) (hne : g ≠ p) (hp : w.heap.size ≤ p) (a b : Value) :
    KpSt w ((W.setCell ⟨p, 0, none⟩ a).setCell ⟨p, 1, none⟩ b) g C v bs sv scs := by
  obtain ⟨⟨h0, base, h1⟩, h2, h3, h4⟩ := h
  have z1 := heap_setCell_same W p 0 _ _ a hz
  exact ⟨⟨by rw [Below.heap_setCell _ _ _ _ hne, Below.heap_setCell _ _ _ _ hne]; exact h0, base, own_set (own_set h1 hz (by decide) 0 _) z1 (by decide) 1 _⟩, own_set (own_set h2 hz (by decide) 0 _) z1 (by decide) 1 _, h3, (h4.setCell (p := ⟨p, 0, none⟩) hp _).setCell (p := ⟨p, 1, none⟩) hp _⟩
theorem KpR.setz {w W : World} {g p : Nat} {C : Int} {v : Value} {bs : List Blk} {sv : Value} {scs : List (List UInt8)} {x o : Nat} {it : Itm} {cs : Array Value} (h : W.cell? ⟨g, 0, none⟩ = some (.int .i64 C) ∧ W.cell? ⟨g, 1, none⟩ = some v ∧ W.cell? ⟨x, o, none⟩ = some (.int .i64 it.kd) ∧ W.cell? ⟨x, o + 1, none⟩ = some (.string (T it.dt)) ∧ KpSt w W g C v bs sv scs)
    (hz : W.heap[p]? = some (.cells cs 24 (0, 0))) (hne : g ≠ p) (hp : w.heap.size ≤ p) (hx : x < w.heap.size) (a b : Value) :
    ((W.setCell ⟨p, 0, none⟩ a).setCell ⟨p, 1, none⟩ b).cell? ⟨g, 0, none⟩ = some (.int .i64 C) ∧ ((W.setCell ⟨p, 0, none⟩ a).setCell ⟨p, 1, none⟩ b).cell? ⟨g, 1, none⟩ = some v ∧ ((W.setCell ⟨p, 0, none⟩ a).setCell ⟨p, 1, none⟩ b).cell? ⟨x, o, none⟩ = some (.int .i64 it.kd) ∧ ((W.setCell ⟨p, 0, none⟩ a).setCell ⟨p, 1, none⟩ b).cell? ⟨x, o + 1, none⟩ = some (.string (T it.dt)) ∧ KpSt w ((W.setCell ⟨p, 0, none⟩ a).setCell ⟨p, 1, none⟩ b) g C v bs sv scs := by
  obtain ⟨h0, h1, h2, h3, h4⟩ := h
  have e : ∀ b' : Nat, b' ≠ p → ((W.setCell ⟨p, 0, none⟩ a).setCell ⟨p, 1, none⟩ b).heap[b']? = W.heap[b']? := fun b' hb => by rw [Below.heap_setCell _ _ _ _ hb, Below.heap_setCell _ _ _ _ hb]
  refine ⟨?_, ?_, ?_, ?_, h4.setz hz hne hp a b⟩
  · rw [World.cell?_of_block (w := W) (e g hne)]; exact h0
  · rw [World.cell?_of_block (w := W) (e g hne)]; exact h1
  · rw [World.cell?_of_block (w := W) (e x (by omega))]; exact h2
  · rw [World.cell?_of_block (w := W) (e x (by omega))]; exact h3
theorem KpR2.next {w W W' : World} {g gs j : Nat} {C : Int} {v : Value} {bs : List Blk} {sv : Value} {scs : List (List UInt8)} {x o : Nat} {it : Itm} {y : List UInt8} (h : W.cell? ⟨g, 0, none⟩ = some (.int .i64 C) ∧ W.cell? ⟨g, 1, none⟩ = some v ∧ W.cell? ⟨x, o, none⟩ = some (.int .i64 it.kd) ∧ W.cell? ⟨x, o + 1, none⟩ = some (.string (T it.dt)) ∧ W.cell? ⟨gs, j, none⟩ = some (.string (T y)) ∧ KpSt w W g C v bs sv scs) (hb : Below W.heap.size W W') :
    W'.cell? ⟨g, 0, none⟩ = some (.int .i64 C) ∧ W'.cell? ⟨g, 1, none⟩ = some v ∧ W'.cell? ⟨x, o, none⟩ = some (.int .i64 it.kd) ∧ W'.cell? ⟨x, o + 1, none⟩ = some (.string (T it.dt)) ∧ W'.cell? ⟨gs, j, none⟩ = some (.string (T y)) ∧ KpSt w W' g C v bs sv scs := by
  obtain ⟨h0, h1, h2, h3, h5, h4⟩ := h
  obtain ⟨k0, k1, k2, k3, k4⟩ := KpR.next ⟨h0, h1, h2, h3, h4⟩ hb
  exact ⟨k0, k1, k2, k3, by rw [hb.cell (p := ⟨gs, j, none⟩) (block_lt_of_cell h5)]; exact h5, k4⟩
set_option maxRecDepth 20000 in
set_option maxHeartbeats 4000000 in
theorem keeps_T (most : Int) (v0 : Value) (l : List Itm) (w : World) (hv : Itms w v0 l) (hl : l.length ≤ 9223372036854775807) (hK : KIn w) :
    Calls Tryd.prog 6 #[.int .i64 most, v0] w fun e w' => e = .returned (.bool true) ∧ Below w.heap.size w w' := by
  obtain ⟨ao, cp, rfl, hcp, hcell⟩ := hv
  have HB := Lib.hid (Below.refl w.heap.size w)
  have HC := Lib.hid hcell
  have HAL := Lib.hid (fun (W : World) (h : Below w.heap.size w W) => (alive_any W (hK.below h)).mono fun e w' (h' : e = _ ∧ Below W.heap.size W w') => (⟨h'.1, bnext h h'.2⟩ : e = .returned (.bool true) ∧ Below w.heap.size w w'))
  have HKK := Lib.hid (fun (W : World) (h : Below w.heap.size w W) => hK.below h)
  have HN := Lib.hid (fun w => new_any most w)
  have hcap := Blok.capOf_ge most
  have HI0 := Lib.hid (Blok.inv_start hcap.1 l)
  generalize Blok.capOf most = C at *
  clear hcell hK
  rcases Nat.lt_or_ge 20 l.length with hd2 | hd2
  · have hdi : (20 : Int) < l.length := by omega
    go_enter Tryd.func6, Tryd.ntmps6
    go_wp2_with fail
    refine (HAL.out _ HB.out).mono ?_; rintro e w2 ⟨rfl, hs2⟩
    have HB2 := Lib.hid hs2
    clear hs2
    go_wp2_with fail
    go_ret
    exact ⟨rfl, HB2.out⟩
  have hdi : (l.length : Int) ≤ 20 := by omega
  go_enter Tryd.func6, Tryd.ntmps6
  go_wp2_with fail
  refine (HN.out _).mono ?_; rintro e w1 ⟨rfl, b1⟩
  have HST0 : Hid (KpSt w (w1.alloc (.cells #[.int .i64 C, .slice none 0 0] 24)) w1.heap.size C (.slice none 0 0) [] (.slice none 0 0) []) := ⟨BoxSt.start (base := 0) (World.ownsRow_nil _ _ _ _), World.ownsRow_nil _ _ _ _, b1.size, b1.alloc b1.size _⟩
  clear b1 HN
  go_wp2_with fail
  go_loopw [6, 22] (fun sv i wr => ∃ (k : Nat) (v : Value) (bs : List Blk) (scs : List (List UInt8)), i = .int .i64 (k : Int) ∧ k ≤ l.length ∧ Hid (Blok.Inv C l k bs scs) ∧ Hid (KpSt w wr w1.heap.size C v bs sv scs)) (fun _ i _ => l.length - (intOf i).toNat)
  case atStart => exact ⟨0, _, [], [], rfl, Nat.zero_le _, HI0, HST0⟩
  case round =>
    obtain ⟨k, v, bs, scs, rfl, hk, HI, HST⟩ := hrel
    have hscl : scs.length = k := HI.out.2.2.2.1
    subst hscl
    have hbl : bs.length ≤ scs.length := HI.out.2.2.1
    obtain ⟨ra, rc, rfl⟩ := HST.out.1.slice
    obtain ⟨sa, sc, rfl⟩ := kp_slice HST.out.2.1
    by_cases hlt : scs.length < l.length
    · obtain ⟨x1, o1, rfl, l1, c0, c1⟩ := HC.out scs.length hlt
      obtain ⟨r1, r2, r3, r4, _⟩ := KpR.mk HST.out l1 c0 c1
      rcases Nat.lt_or_ge 2000 l[scs.length].dt.length with hd | hd
      · have hdi2 : (2000 : Int) < l[scs.length].dt.length := by omega
        go_wp2_with fail
        refine (HAL.out _ HST.out.2.2.2).mono ?_; rintro e w2 ⟨rfl, hs2⟩
        have HB2 := Lib.hid hs2
        clear hs2
        go_wp2_with fail
        go_ret
        exact ⟨rfl, HB2.out⟩
      have hdi2 : (l[scs.length].dt.length : Int) ≤ 2000 := by omega
      have HIS := Lib.hid (Blok.inv_step HI.out hlt)
      have HPU := Lib.hid (fun (W : World) (h : W.cell? ⟨w1.heap.size, 0, none⟩ = some (.int .i64 C) ∧ W.cell? ⟨w1.heap.size, 1, none⟩ = some (.slice ra bs.length rc) ∧ W.cell? ⟨x1, o1 + scs.length * 2, none⟩ = some (.int .i64 l[scs.length].kd) ∧ W.cell? ⟨x1, o1 + scs.length * 2 + 1, none⟩ = some (.string (T l[scs.length].dt)) ∧ KpSt w W w1.heap.size C (.slice ra bs.length rc) bs (.slice sa scs.length sc) scs) =>
        (bput_own C (.slice ra bs.length rc) bs l[scs.length].kd l[scs.length].dt W h.2.2.2.2.1.blks (by omega) (by omega) (HKK.out W h.2.2.2.2.2.2.2)).mono fun e w' (h' : BkPutOwn C (Blok.put C bs l[scs.length].kd l[scs.length].dt) W e w') => (show ∃ a2 c2, e = .returned (.tuple #[.agg #[.int .i64 C, .slice a2 (Blok.put C bs l[scs.length].kd l[scs.length].dt).1.length c2], .string (T (Blok.put C bs l[scs.length].kd l[scs.length].dt).2.1), .int .i64 (Blok.put C bs l[scs.length].kd l[scs.length].dt).2.2]) ∧ w'.ownsRow W.heap.size 49 3 (.slice a2 (Blok.put C bs l[scs.length].kd l[scs.length].dt).1.length c2) (Blok.put C bs l[scs.length].kd l[scs.length].dt).1.length (bcs (Blok.put C bs l[scs.length].kd l[scs.length].dt).1) ∧
          (w'.cell? ⟨w1.heap.size, 0, none⟩ = some (.int .i64 C) ∧ w'.cell? ⟨w1.heap.size, 1, none⟩ = some (.slice ra bs.length rc) ∧ w'.cell? ⟨x1, o1 + scs.length * 2, none⟩ = some (.int .i64 l[scs.length].kd) ∧ w'.cell? ⟨x1, o1 + scs.length * 2 + 1, none⟩ = some (.string (T l[scs.length].dt)) ∧ KpSt w w' w1.heap.size C (.slice ra bs.length rc) bs (.slice sa scs.length sc) scs) ∧ Below W.heap.size W w' from by
            obtain ⟨v2, e1, e2, e3⟩ := h'
            obtain ⟨a2, c2, rfl⟩ := own_slice e2
            exact ⟨a2, c2, e1, e2, KpR.next h e3, e3⟩))
      have HSTd := Lib.hid (HST.out.next (below_drewN (Below.refl _ _) 1))
      have HPUZ := Lib.hid (fun (W : World) (p : Nat) (h : W.cell? ⟨w1.heap.size, 0, none⟩ = some (.int .i64 C) ∧ W.cell? ⟨w1.heap.size, 1, none⟩ = some (.slice ra bs.length rc) ∧ W.cell? ⟨x1, o1 + scs.length * 2, none⟩ = some (.int .i64 l[scs.length].kd) ∧ W.cell? ⟨x1, o1 + scs.length * 2 + 1, none⟩ = some (.string (T l[scs.length].dt)) ∧ KpSt w W w1.heap.size C (.slice ra bs.length rc) bs (.slice sa scs.length sc) scs) (hz : W.heap[p]? = some (.cells #[.int .i64 0, .slice none 0 0] 24 (0, 0))) =>
        (HPU.out W h).mono fun e w' h' => (show ∃ a2 c2, e = .returned (.tuple #[.agg #[.int .i64 C, .slice a2 (Blok.put C bs l[scs.length].kd l[scs.length].dt).1.length c2], .string (T (Blok.put C bs l[scs.length].kd l[scs.length].dt).2.1), .int .i64 (Blok.put C bs l[scs.length].kd l[scs.length].dt).2.2]) ∧ w'.ownsRow W.heap.size 49 3 (.slice a2 (Blok.put C bs l[scs.length].kd l[scs.length].dt).1.length c2) (Blok.put C bs l[scs.length].kd l[scs.length].dt).1.length (bcs (Blok.put C bs l[scs.length].kd l[scs.length].dt).1) ∧
          (w'.cell? ⟨w1.heap.size, 0, none⟩ = some (.int .i64 C) ∧ w'.cell? ⟨w1.heap.size, 1, none⟩ = some (.slice ra bs.length rc) ∧ w'.cell? ⟨x1, o1 + scs.length * 2, none⟩ = some (.int .i64 l[scs.length].kd) ∧ w'.cell? ⟨x1, o1 + scs.length * 2 + 1, none⟩ = some (.string (T l[scs.length].dt)) ∧ KpSt w w' w1.heap.size C (.slice ra bs.length rc) bs (.slice sa scs.length sc) scs) ∧ w'.heap[p]? = some (.cells #[.int .i64 0, .slice none 0 0] 24 (0, 0)) ∧ w'.cell? ⟨p, 0, none⟩ = some (.int .i64 0) ∧ w'.cell? ⟨p, 1, none⟩ = some (.slice none 0 0) ∧ w'.frozen? ⟨p, 0, none⟩ = false ∧ w'.frozen? ⟨p, 1, none⟩ = false from by
            obtain ⟨a2, c2, e1, e2, e3, e4⟩ := h'
            have r := (e4.block _ (row_lt hz)).trans hz
            exact ⟨a2, c2, e1, e2, e3, r, by rw [cell_of_row _ _ _ _ _ _ r]; rfl, by rw [cell_of_row _ _ _ _ _ _ r]; rfl, frozen_of_row w' _ 0 _ _ r, frozen_of_row w' _ 1 _ _ r⟩))
      have hgr : w1.heap.size < wr.heap.size := row_lt HST.out.1.1
      have hgn : w1.heap.size ≠ wr.heap.size := Nat.ne_of_lt hgr
      have hwr : w.heap.size ≤ wr.heap.size := HST.out.2.2.2.size
      generalize Blok.put C bs l[scs.length].kd l[scs.length].dt = P at *
      obtain ⟨bs2, x, E⟩ := P
      simp only [] at HPU HPUZ HIS
      have hb2 : bs2.length ≤ scs.length + 1 := HIS.out.1.2.2.1
      have hb3 : bs2.length ≤ 1000 := by omega
      have hii : (scs.length : Int) < l.length := by omega
      go_upto_region 10 with fail
      go_region_held_law (fun w' => w'.cell? ⟨w1.heap.size, 0, none⟩ = some (.int .i64 C) ∧ w'.cell? ⟨w1.heap.size, 1, none⟩ = some (.slice ra bs.length rc) ∧ w'.cell? ⟨x1, o1 + scs.length * 2, none⟩ = some (.int .i64 l[scs.length].kd) ∧ w'.cell? ⟨x1, o1 + scs.length * 2 + 1, none⟩ = some (.string (T l[scs.length].dt)) ∧ KpSt w w' w1.heap.size C (.slice ra bs.length rc) bs (.slice sa scs.length sc) scs) (first | assumption | exact ⟨r1, r2, r3, r4, HSTd.out⟩ | exact KpR.alloc ⟨r1, r2, r3, r4, HSTd.out⟩ _ | exact KpR.alloc (by assumption) _ | exact KpR.setz (by assumption) (by assumption) hgn hwr l1 _ _) (first | (go_at_call 23; refine (HPUZ.out _ wr.heap.size (by assumption) (show (wr.drew.alloc _).heap[wr.heap.size]? = _ from heap_alloc_new _ _)).mono ?_; rintro e w' ⟨a2, c2, rfl, hown, hkeep, hz, z1, z2, z3, z4⟩) | (go_at_call 23; refine (HPU.out _ (by assumption)).mono ?_; rintro e w' ⟨a2, c2, rfl, hown, hkeep, hbz⟩))
      · have hp8 := heap_alloc_new w' (.cells #[.int .i64 C, .slice a2 bs2.length c2] 24)
        have hown8 := hown.alloc (.cells #[.int .i64 C, .slice a2 bs2.length c2] 24)
        have hkp8 := (KpR.alloc hkeep (.cells #[.int .i64 C, .slice a2 bs2.length c2] 24)).2.2.2.2
        generalize w'.heap.size = g8 at *
        generalize w'.alloc (.cells #[.int .i64 C, .slice a2 bs2.length c2] 24) = W8 at *
        clear hkeep hown hbz r1 r2 r3 r4
        have HP8 : Hid (W8.heap[g8]? = some (.cells #[.int .i64 C, .slice a2 bs2.length c2] 24 (0, 0))) := hp8
        have HO8 := Lib.hid hown8
        have HKP8 := Lib.hid hkp8
        clear hp8 hown8 hkp8
        obtain ⟨e0, e1⟩ := kstore_reads HP8.out
        obtain ⟨t1, t2, t3, t4⟩ := HKP8.out.1.reads
        by_cases hE : E = 0
        · subst hE
          go_upto_region 14 with fail
          have HST3 := Lib.hid (HKP8.out.store HO8.out)
          clear e0 e1 t1 t2 t3 t4 HKP8 HO8 HP8
          generalize (W8.setCell ⟨w1.heap.size, 0, none⟩ (.int .i64 C)).setCell ⟨w1.heap.size, 1, none⟩ (.slice a2 bs2.length c2) = W3 at *
          obtain ⟨i0, hi0, hz0, hz1, hz2⟩ := info_parts (P := Tryd.prog) (e := 9) (z := .string ByteArray.empty) (size := 1) (bytes := 16) (by kernel_rfl)
          go_wp2_with (at_builtin; refine wpList_append_own _ rfl _ _ 44 rfl w.heap.size 9 i0 (.string ByteArray.empty) 1 16 Tryd.underlying44 hi0 hz0 hz1 hz2 rfl (by decide) (.slice sa scs.length sc) scs.length (tcs scs) rfl ?pa0 ⟨W3.heap.size, 0, none⟩ 1 1 (tcs [x]) rfl ?pa1 ?pa2 ?pa3 ?pa4 ?pa5 ?pa6 ?_)
          case pa0 => exact HST3.out.2.1.alloc _
          case pa1 => rfl
          case pa2 =>
            intro j u hj
            match j, hj with
            | 0, hj => simp [tcs] at hj; subst hj; simp [Addr.add]
            | j + 1, hj => simp [tcs] at hj
          case pa3 => exact tcs_one _
          case pa4 => unfold maxLen; omega
          case pa5 => omega
          case pa6 => have := HST3.out.2.2.2.size; simp; omega
          intro v6 w6 hown6 hgrow6 _
          have HST6 := Lib.hid (HST3.out.push hown6 hgrow6)
          clear hown6 hgrow6
          go_wp2_with fail
          go_roundw
          case rel => exact ⟨scs.length + 1, _, bs2, scs ++ [x], by go_num, by omega, HIS.out.1, HST6⟩
          case measure => simp [intOf]; omega
        · obtain ⟨rfl, rfl⟩ := HIS.out.2 hE
          have hEb : (E == 0) = false := beq_eq_false_iff_ne.2 hE
          have HSA := Lib.hid (same_any C (.slice a2 bs2.length c2) bs2 C (.slice ra bs2.length rc) bs2 W8 (blks_own HO8.out) HKP8.out.1.blks (by omega) (by omega))
          rw [Blok.same_yes] at HSA
          go_wp2_with fail
          refine HSA.out.mono ?_; rintro e W9 ⟨rfl, b9⟩
          have HKP9 := Lib.hid (HKP8.out.next b9)
          have HO9 := Lib.hid (own_below HO8.out b9)
          have HP9 := Lib.hid ((b9.block _ (row_lt HP8.out)).trans HP8.out)
          clear b9 e0 e1 t1 t2 t3 t4 HSA
          obtain ⟨e0, e1⟩ := kstore_reads HP9.out
          obtain ⟨t1, t2, t3, t4⟩ := HKP9.out.1.reads
          go_upto_region 14 with fail
          have HST3 := Lib.hid (HKP9.out.store HO9.out)
          clear e0 e1 t1 t2 t3 t4 HKP9 HO9 HP9 HKP8 HO8 HP8
          generalize (W9.setCell ⟨w1.heap.size, 0, none⟩ (.int .i64 C)).setCell ⟨w1.heap.size, 1, none⟩ (.slice a2 bs2.length c2) = W3 at *
          obtain ⟨i0, hi0, hz0, hz1, hz2⟩ := info_parts (P := Tryd.prog) (e := 9) (z := .string ByteArray.empty) (size := 1) (bytes := 16) (by kernel_rfl)
          go_wp2_with (at_builtin; refine wpList_append_own _ rfl _ _ 44 rfl w.heap.size 9 i0 (.string ByteArray.empty) 1 16 Tryd.underlying44 hi0 hz0 hz1 hz2 rfl (by decide) (.slice sa scs.length sc) scs.length (tcs scs) rfl ?pb0 ⟨W3.heap.size, 0, none⟩ 1 1 (tcs [[]]) rfl ?pb1 ?pb2 ?pb3 ?pb4 ?pb5 ?pb6 ?_)
          case pb0 => exact HST3.out.2.1.alloc _
          case pb1 => rfl
          case pb2 =>
            intro j u hj
            match j, hj with
            | 0, hj => simp [tcs] at hj; subst hj; simp [Addr.add]
            | j + 1, hj => simp [tcs] at hj
          case pb3 => exact tcs_one _
          case pb4 => unfold maxLen; omega
          case pb5 => omega
          case pb6 => have := HST3.out.2.2.2.size; simp; omega
          intro v6 w6 hown6 hgrow6 _
          have HST6 := Lib.hid (HST3.out.push hown6 hgrow6)
          clear hown6 hgrow6
          go_wp2_with fail
          go_roundw
          case rel => exact ⟨scs.length + 1, _, bs2, scs ++ [[]], by go_num, by omega, HIS.out.1, HST6⟩
          case measure => simp [intOf]; omega
      · have z5 := heap_setCell_same w' wr.heap.size 0 _ _ (.int .i64 C) hz
        have hp8 := heap_setCell_same _ wr.heap.size 1 _ _ (.slice a2 bs2.length c2) z5
        have hown8 := own_set (own_set hown hz (by decide) 0 (.int .i64 C)) z5 (by decide) 1 (.slice a2 bs2.length c2)
        have hkp8 := hkeep.2.2.2.2.setz hz hgn hwr (.int .i64 C) (.slice a2 bs2.length c2)
        generalize wr.heap.size = g8 at *
        generalize (w'.setCell ⟨g8, 0, none⟩ (.int .i64 C)).setCell ⟨g8, 1, none⟩ (.slice a2 bs2.length c2) = W8 at *
        clear hkeep hown hz z1 z2 z3 z4 z5 r1 r2 r3 r4
        have HP8 : Hid (W8.heap[g8]? = some (.cells #[.int .i64 C, .slice a2 bs2.length c2] 24 (0, 0))) := hp8
        have HO8 := Lib.hid hown8
        have HKP8 := Lib.hid hkp8
        clear hp8 hown8 hkp8
        obtain ⟨e0, e1⟩ := kstore_reads HP8.out
        obtain ⟨t1, t2, t3, t4⟩ := HKP8.out.1.reads
        by_cases hE : E = 0
        · subst hE
          go_upto_region 14 with fail
          have HST3 := Lib.hid (HKP8.out.store HO8.out)
          clear e0 e1 t1 t2 t3 t4 HKP8 HO8 HP8
          generalize (W8.setCell ⟨w1.heap.size, 0, none⟩ (.int .i64 C)).setCell ⟨w1.heap.size, 1, none⟩ (.slice a2 bs2.length c2) = W3 at *
          obtain ⟨i0, hi0, hz0, hz1, hz2⟩ := info_parts (P := Tryd.prog) (e := 9) (z := .string ByteArray.empty) (size := 1) (bytes := 16) (by kernel_rfl)
          go_wp2_with (at_builtin; refine wpList_append_own _ rfl _ _ 44 rfl w.heap.size 9 i0 (.string ByteArray.empty) 1 16 Tryd.underlying44 hi0 hz0 hz1 hz2 rfl (by decide) (.slice sa scs.length sc) scs.length (tcs scs) rfl ?qa0 ⟨W3.heap.size, 0, none⟩ 1 1 (tcs [x]) rfl ?qa1 ?qa2 ?qa3 ?qa4 ?qa5 ?qa6 ?_)
          case qa0 => exact HST3.out.2.1.alloc _
          case qa1 => rfl
          case qa2 =>
            intro j u hj
            match j, hj with
            | 0, hj => simp [tcs] at hj; subst hj; simp [Addr.add]
            | j + 1, hj => simp [tcs] at hj
          case qa3 => exact tcs_one _
          case qa4 => unfold maxLen; omega
          case qa5 => omega
          case qa6 => have := HST3.out.2.2.2.size; simp; omega
          intro v6 w6 hown6 hgrow6 _
          have HST6 := Lib.hid (HST3.out.push hown6 hgrow6)
          clear hown6 hgrow6
          go_wp2_with fail
          go_roundw
          case rel => exact ⟨scs.length + 1, _, bs2, scs ++ [x], by go_num, by omega, HIS.out.1, HST6⟩
          case measure => simp [intOf]; omega
        · obtain ⟨rfl, rfl⟩ := HIS.out.2 hE
          have hEb : (E == 0) = false := beq_eq_false_iff_ne.2 hE
          have HSA := Lib.hid (same_any C (.slice a2 bs2.length c2) bs2 C (.slice ra bs2.length rc) bs2 W8 (blks_own HO8.out) HKP8.out.1.blks (by omega) (by omega))
          rw [Blok.same_yes] at HSA
          go_wp2_with fail
          refine HSA.out.mono ?_; rintro e W9 ⟨rfl, b9⟩
          have HKP9 := Lib.hid (HKP8.out.next b9)
          have HO9 := Lib.hid (own_below HO8.out b9)
          have HP9 := Lib.hid ((b9.block _ (row_lt HP8.out)).trans HP8.out)
          clear b9 e0 e1 t1 t2 t3 t4 HSA
          obtain ⟨e0, e1⟩ := kstore_reads HP9.out
          obtain ⟨t1, t2, t3, t4⟩ := HKP9.out.1.reads
          go_upto_region 14 with fail
          have HST3 := Lib.hid (HKP9.out.store HO9.out)
          clear e0 e1 t1 t2 t3 t4 HKP9 HO9 HP9 HKP8 HO8 HP8
          generalize (W9.setCell ⟨w1.heap.size, 0, none⟩ (.int .i64 C)).setCell ⟨w1.heap.size, 1, none⟩ (.slice a2 bs2.length c2) = W3 at *
          obtain ⟨i0, hi0, hz0, hz1, hz2⟩ := info_parts (P := Tryd.prog) (e := 9) (z := .string ByteArray.empty) (size := 1) (bytes := 16) (by kernel_rfl)
          go_wp2_with (at_builtin; refine wpList_append_own _ rfl _ _ 44 rfl w.heap.size 9 i0 (.string ByteArray.empty) 1 16 Tryd.underlying44 hi0 hz0 hz1 hz2 rfl (by decide) (.slice sa scs.length sc) scs.length (tcs scs) rfl ?qb0 ⟨W3.heap.size, 0, none⟩ 1 1 (tcs [[]]) rfl ?qb1 ?qb2 ?qb3 ?qb4 ?qb5 ?qb6 ?_)
          case qb0 => exact HST3.out.2.1.alloc _
          case qb1 => rfl
          case qb2 =>
            intro j u hj
            match j, hj with
            | 0, hj => simp [tcs] at hj; subst hj; simp [Addr.add]
            | j + 1, hj => simp [tcs] at hj
          case qb3 => exact tcs_one _
          case qb4 => unfold maxLen; omega
          case qb5 => omega
          case qb6 => have := HST3.out.2.2.2.size; simp; omega
          intro v6 w6 hown6 hgrow6 _
          have HST6 := Lib.hid (HST3.out.push hown6 hgrow6)
          clear hown6 hgrow6
          go_wp2_with fail
          go_roundw
          case rel => exact ⟨scs.length + 1, _, bs2, scs ++ [[]], by go_num, by omega, HIS.out.1, HST6⟩
          case measure => simp [intOf]; omega
    · have hsl : scs.length = l.length := by omega
      have HSL := Lib.hid hsl
      have hbs : bs.length ≤ 1000 := by omega
      have HD6 := Lib.hid (show ∀ j (h : j < bs.length), bs[j].dt.length ≤ 1000000 from fun j h => by have := (Blok.wf_fair HI.out.1 _ (List.getElem_mem h)).2.2.1; omega)
      have HRT := Lib.hid (Blok.wf_right HI.out.1 hcap.1 hcap.2 HI.out.2.1)
      clear hsl
      go_wp2_with fail
      go_loopw [69] (fun i wr2 => ∃ j : Nat, j ≤ l.length ∧ i = .int .i64 (j : Int) ∧ Hid (KpSt w wr2 w1.heap.size C (.slice ra bs.length rc) bs (.slice sa scs.length sc) scs)) (fun i _ => l.length - (intOf i).toNat)
      case atStart => exact ⟨0, Nat.zero_le _, rfl, HST⟩
      case round =>
        obtain ⟨j, hj, rfl, HST2⟩ := hrel
        by_cases hlt2 : j < l.length
        · obtain ⟨x1, o1, rfl, l1, c0, c1⟩ := HC.out j hlt2
          obtain ⟨r1, r2, r3, r4, _⟩ := KpR.mk HST2.out l1 c0 c1
          have hjs : j < scs.length := by rw [HSL.out]; exact hlt2
          obtain ⟨gs, rfl⟩ : ∃ gs, sa = some ⟨gs, 0, none⟩ := by
            rcases HST2.out.2.1.2 with ⟨_, e0⟩ | ⟨g', cap', cur, e, _⟩
            · omega
            · cases e; exact ⟨g', rfl⟩
          have r5 : wr.cell? ⟨gs, j, none⟩ = some (.string (T scs[j])) := by
            have := HST2.out.2.1.cells (g := gs) rfl j (.string (T scs[j])) (by simp [tcs, hjs])
            rw [Addr.add_lit] at this
            simpa using this
          have hij : (j : Int) < l.length := by omega
          have hij2 : (j : Int) < scs.length := by omega
          rcases HI.out.2.2.2.2 j hjs hlt2 with hy | ⟨hy, hm⟩
          · rw [hy] at r5
            go_wp2_with fail
            go_roundw
            case rel => exact ⟨j + 1, by omega, by go_num, HST2⟩
            case measure => simp [intOf]; omega
          · have hyb : (scs[j] == []) = false := teq_no (fun e => by have h1 := Blok.scr_length l[j].kd l[j].dt; rw [← hy, e] at h1; cases h1)
            have HG := Lib.hid (fun (W : World) (h : W.cell? ⟨w1.heap.size, 0, none⟩ = some (.int .i64 C) ∧ W.cell? ⟨w1.heap.size, 1, none⟩ = some (.slice ra bs.length rc) ∧ W.cell? ⟨x1, o1 + j * 2, none⟩ = some (.int .i64 l[j].kd) ∧ W.cell? ⟨x1, o1 + j * 2 + 1, none⟩ = some (.string (T l[j].dt)) ∧ W.cell? ⟨gs, j, none⟩ = some (.string (T scs[j])) ∧ KpSt w W w1.heap.size C (.slice ra bs.length rc) bs (.slice (some ⟨gs, 0, none⟩) scs.length sc) scs) =>
              (bkget_any C (.slice ra bs.length rc) bs scs[j] l[j].kd W (HKK.out W h.2.2.2.2.2.2.2.2) h.2.2.2.2.2.1.blks (by omega) HD6.out).mono fun e w' (h' : BkGetSays bs scs[j] l[j].kd W e w') => (show e = .returned (.tuple #[.string (T l[j].dt), .int .i64 0]) ∧ (w'.cell? ⟨w1.heap.size, 0, none⟩ = some (.int .i64 C) ∧ w'.cell? ⟨w1.heap.size, 1, none⟩ = some (.slice ra bs.length rc) ∧ w'.cell? ⟨x1, o1 + j * 2, none⟩ = some (.int .i64 l[j].kd) ∧ w'.cell? ⟨x1, o1 + j * 2 + 1, none⟩ = some (.string (T l[j].dt)) ∧ w'.cell? ⟨gs, j, none⟩ = some (.string (T scs[j])) ∧ KpSt w w' w1.heap.size C (.slice ra bs.length rc) bs (.slice (some ⟨gs, 0, none⟩) scs.length sc) scs) from by
                obtain ⟨e1, e2⟩ := h'
                rw [hy, Blok.get_made HI.out.1 hm] at e1
                exact ⟨e1, KpR2.next h e2⟩))
            have HHA := Lib.hid (fun (W : World) (h : W.cell? ⟨w1.heap.size, 0, none⟩ = some (.int .i64 C) ∧ W.cell? ⟨w1.heap.size, 1, none⟩ = some (.slice ra bs.length rc) ∧ W.cell? ⟨x1, o1 + j * 2, none⟩ = some (.int .i64 l[j].kd) ∧ W.cell? ⟨x1, o1 + j * 2 + 1, none⟩ = some (.string (T l[j].dt)) ∧ W.cell? ⟨gs, j, none⟩ = some (.string (T scs[j])) ∧ KpSt w W w1.heap.size C (.slice ra bs.length rc) bs (.slice (some ⟨gs, 0, none⟩) scs.length sc) scs) =>
              (has_any C (.slice ra bs.length rc) bs scs[j] W h.2.2.2.2.2.1.blks (by omega)).mono fun e w' (h' : e = .returned (.bool (decide (0 ≤ Blok.idx scs[j] bs))) ∧ Below W.heap.size W w') => (show e = .returned (.bool true) ∧ (w'.cell? ⟨w1.heap.size, 0, none⟩ = some (.int .i64 C) ∧ w'.cell? ⟨w1.heap.size, 1, none⟩ = some (.slice ra bs.length rc) ∧ w'.cell? ⟨x1, o1 + j * 2, none⟩ = some (.int .i64 l[j].kd) ∧ w'.cell? ⟨x1, o1 + j * 2 + 1, none⟩ = some (.string (T l[j].dt)) ∧ w'.cell? ⟨gs, j, none⟩ = some (.string (T scs[j])) ∧ KpSt w w' w1.heap.size C (.slice ra bs.length rc) bs (.slice (some ⟨gs, 0, none⟩) scs.length sc) scs) from by
                obtain ⟨e1, e2⟩ := h'
                rw [hy, decide_eq_true (Blok.has_made HI.out.1 hm)] at e1
                exact ⟨e1, KpR2.next h e2⟩))
            have HSTd := Lib.hid (HST2.out.next (below_drewN (Below.refl _ _) 1))
            clear hy hm
            go_upto_region 20 with fail
            go_region_held_law (fun w' => w'.cell? ⟨w1.heap.size, 0, none⟩ = some (.int .i64 C) ∧ w'.cell? ⟨w1.heap.size, 1, none⟩ = some (.slice ra bs.length rc) ∧ w'.cell? ⟨x1, o1 + j * 2, none⟩ = some (.int .i64 l[j].kd) ∧ w'.cell? ⟨x1, o1 + j * 2 + 1, none⟩ = some (.string (T l[j].dt)) ∧ w'.cell? ⟨gs, j, none⟩ = some (.string (T scs[j])) ∧ KpSt w w' w1.heap.size C (.slice ra bs.length rc) bs (.slice (some ⟨gs, 0, none⟩) scs.length sc) scs) (first | assumption | exact ⟨r1, r2, r3, r4, r5, HSTd.out⟩) (first | (go_at_call 15; refine (HG.out _ (by assumption)).mono ?_; rintro e w' ⟨rfl, hkeep⟩))
            clear r1 r2 r3 r4 r5 HSTd
            generalize w' = W5 at *
            have HK5 := Lib.hid (KpR2.next hkeep (below_drewN (Below.refl _ _) 1))
            obtain ⟨r1, r2, r3, r4, r5, hst5⟩ := hkeep
            go_upto_region 21 with fail
            go_region_held_law (fun w' => w'.cell? ⟨w1.heap.size, 0, none⟩ = some (.int .i64 C) ∧ w'.cell? ⟨w1.heap.size, 1, none⟩ = some (.slice ra bs.length rc) ∧ w'.cell? ⟨x1, o1 + j * 2, none⟩ = some (.int .i64 l[j].kd) ∧ w'.cell? ⟨x1, o1 + j * 2 + 1, none⟩ = some (.string (T l[j].dt)) ∧ w'.cell? ⟨gs, j, none⟩ = some (.string (T scs[j])) ∧ KpSt w w' w1.heap.size C (.slice ra bs.length rc) bs (.slice (some ⟨gs, 0, none⟩) scs.length sc) scs) (first | assumption | exact HK5.out) (first | (go_at_call 17; refine (HHA.out _ (by assumption)).mono ?_; rintro e w' ⟨rfl, hkeep⟩))
            have HST6 := Lib.hid hkeep.2.2.2.2.2
            clear r1 r2 r3 r4 r5 hst5 HK5 hkeep
            go_wp2_with fail
            go_roundw
            case rel => exact ⟨j + 1, by omega, by go_num, HST6⟩
            case measure => simp [intOf]; omega
        · have HRI := Lib.hid (bright_any C (.slice ra bs.length rc) bs wr HST2.out.1.blks (by omega))
          rw [HRT.out] at HRI
          obtain ⟨t1, t2, t3, t4⟩ := HST2.out.1.reads
          go_wp2_with fail
          refine HRI.out.mono ?_; rintro e w8 ⟨rfl, b8⟩
          have HB8 := Lib.hid (bnext HST2.out.2.2.2 b8)
          clear b8 t1 t2 t3 t4
          go_wp2_with fail
          refine (HAL.out _ HB8.out).mono ?_; rintro e w9 ⟨rfl, hs9⟩
          have HB9 := Lib.hid hs9
          clear hs9
          go_wp2_with fail
          go_ret
          exact ⟨rfl, HB9.out⟩
end Go.Proofs.YtpcieookddpkhaaDoor
