/- What New and Copy return, of both sides. Conditions: the slice holds the given mounts; at most 10^6 of them, each of at most 10^6 targets. -/
import Derived.Test.YtganenaaglfdnaaMntClone
import Derived.Deep.RegionLaw
set_option linter.unusedVariables false
set_option linter.unusedSimpArgs false
namespace Go.Proofs.Ytganenaaglfdnaa
open Go.RowKit
/-- What stands in a box of a name space, of a channel. -/
theorem ns_reads {W : World} {g : Nat} {x0 x1 x2 x3 x4 x5 x6 : Value} (h : W.heap[g]? = some (.cells #[x0, x1, x2, x3, x4, x5, x6] 26 (0, 0))) :
    (W.cell? ⟨g, 0, none⟩ = some x0 ∧ W.cell? ⟨g, 1, none⟩ = some x1 ∧ W.cell? ⟨g, 2, none⟩ = some x2 ∧ W.cell? ⟨g, 3, none⟩ = some x3 ∧ W.cell? ⟨g, 4, none⟩ = some x4 ∧ W.cell? ⟨g, 5, none⟩ = some x5 ∧ W.cell? ⟨g, 6, none⟩ = some x6) ∧
    (W.frozen? ⟨g, 0, none⟩ = false ∧ W.frozen? ⟨g, 1, none⟩ = false ∧ W.frozen? ⟨g, 2, none⟩ = false ∧ W.frozen? ⟨g, 3, none⟩ = false ∧ W.frozen? ⟨g, 4, none⟩ = false ∧ W.frozen? ⟨g, 5, none⟩ = false ∧ W.frozen? ⟨g, 6, none⟩ = false) := by
  refine ⟨⟨?_, ?_, ?_, ?_, ?_, ?_, ?_⟩, ⟨frozen_of_row W _ 0 _ _ h, frozen_of_row W _ 1 _ _ h, frozen_of_row W _ 2 _ _ h, frozen_of_row W _ 3 _ _ h, frozen_of_row W _ 4 _ _ h, frozen_of_row W _ 5 _ _ h, frozen_of_row W _ 6 _ _ h⟩⟩ <;> (rw [cell_of_row _ _ _ _ _ _ h]; rfl)
theorem ch_reads {W : World} {g : Nat} {x0 x1 x2 x3 x4 : Value} {ty : TypeId} (h : W.heap[g]? = some (.cells #[x0, x1, x2, x3, x4] ty (0, 0))) :
    W.cell? ⟨g, 0, none⟩ = some x0 ∧ W.cell? ⟨g, 1, none⟩ = some x1 ∧ W.cell? ⟨g, 2, none⟩ = some x2 ∧ W.cell? ⟨g, 3, none⟩ = some x3 ∧ W.cell? ⟨g, 4, none⟩ = some x4 := by
  refine ⟨?_, ?_, ?_, ?_, ?_⟩ <;> (rw [cell_of_row _ _ _ _ _ _ h]; rfl)
theorem mnew_any (id : Int) (r : Chn) (w : World) :
    Calls Try.prog 15 #[.int .i64 id, chv r] w fun e w' => e = .returned (nsv id r (.slice none 0 0)) ∧ Below w.heap.size w w' := by
  have HB := Lib.hid (Below.refl w.heap.size w)
  unfold chv nsv
  go_enter Try.func15, Try.ntmps15
  go_wp2_with fail
  exact bodyPost_ret (v := .agg #[.int .i64 id, .int .i64 r.dev, .int .i64 r.id, .int .i64 r.fid, .string (T r.path), .string (T r.name), .slice none 0 0]) (by simp [results, Try.results15, go_sem]) rfl ⟨rfl, (HB.out.alloc (Nat.le_refl _) _).alloc (by simp) _⟩
theorem rmnew_any (id : Int) (r : Chn) (w : World) :
    Calls Try.prog 16 #[.int .i64 id, chv r] w fun e w' => e = .returned (nsv id r (.slice none 0 0)) ∧ Below w.heap.size w w' := by
  have HB := Lib.hid (Below.refl w.heap.size w)
  unfold chv nsv
  go_enter Try.func16, Try.ntmps16
  go_wp2_with fail
  exact bodyPost_ret (v := .agg #[.int .i64 id, .int .i64 r.dev, .int .i64 r.id, .int .i64 r.fid, .string (T r.path), .string (T r.name), .slice none 0 0]) (by simp [results, Try.results16, go_sem]) rfl ⟨rfl, (HB.out.alloc (Nat.le_refl _) _).alloc (by simp) _⟩
theorem rmcopy_any (id : Int) (r : Chn) (a : Option Addr) (n c : Nat) (id2 : Int) (w : World) :
    Calls Try.prog 18 #[nsv id r (.slice a n c), .int .i64 id2] w fun e w' => e = .returned (nsv id2 r (.slice a n c)) ∧ Below w.heap.size w w' := by
  have HB := Lib.hid (Below.refl w.heap.size w)
  unfold nsv
  go_enter Try.func18, Try.ntmps18
  go_wp2_with fail
  exact bodyPost_ret (v := .agg #[.int .i64 id2, .int .i64 r.dev, .int .i64 r.id, .int .i64 r.fid, .string (T r.path), .string (T r.name), .slice a n c]) (by simp [results, Try.results18, go_sem]) rfl ⟨rfl, by (repeat' first | exact HB.out | refine Below.setCell ?_ ?_ _ | refine Below.alloc ?_ ?_ _) <;> (simp <;> omega)⟩
/-- The boxes of the result and of the copy; the copy's mounts, of which the first have unions of their own. -/
def CpSt (w W : World) (g : Nat) (id : Int) (r : Chn) (v : Value) (nw old : List (Mnt × Value)) : Prop :=
  W.heap[w.heap.size + 1]? = some (.cells #[.int .i64 0, .int .i64 0, .int .i64 0, .int .i64 0, .string ⟨#[]⟩, .string ⟨#[]⟩, .slice none 0 0] 26 (0, 0)) ∧
  W.heap[g]? = some (.cells #[.int .i64 id, .int .i64 r.dev, .int .i64 r.id, .int .i64 r.fid, .string (T r.path), .string (T r.name), v] 26 (0, 0)) ∧ w.heap.size + 2 ≤ g ∧
  MOwn W (w.heap.size + 2) (fun b => b ≠ g ∧ b ≠ w.heap.size + 1) v (nw ++ old) ∧ (∀ r ∈ nw, r.1.to ≠ [] → ∃ b, r.2.ownBlock = some b ∧ w.heap.size ≤ b) ∧ Below w.heap.size w W
theorem CpSt.next {w W W' : World} {g : Nat} {id : Int} {r : Chn} {v : Value} {nw old : List (Mnt × Value)} (h : CpSt w W g id r v nw old) (hb : Below W.heap.size W W') : CpSt w W' g id r v nw old := by
  obtain ⟨h0, h1, h2, h3, h4, h5⟩ := h
  exact ⟨(hb.block _ (row_lt h0)).trans h0, (hb.block _ (row_lt h1)).trans h1, h2, h3.below hb, h4, bnext h5 hb⟩
theorem MOwn.form {w : World} {base : Nat} {P : Nat → Prop} {v : Value} {rs : List (Mnt × Value)} (h : MOwn w base P v rs) : ∃ a c, v = .slice a rs.length c := own_lt h.1
/-- The slice of one mount's union, in its row. -/
theorem MOwn.read {w : World} {base : Nat} {P : Nat → Prop} {v : Value} {nw old : List (Mnt × Value)} {x : Mnt × Value} (h : MOwn w base P v (nw ++ x :: old)) :
    ∃ g c, v = .slice (some ⟨g, 0, none⟩) (nw.length + (old.length + 1)) c ∧ base ≤ g ∧ g < w.heap.size ∧ w.cell? ⟨g, nw.length * 6 + 5, none⟩ = some x.2 ∧ w.frozen? ⟨g, nw.length * 6 + 5, none⟩ = false ∧ Tgts w x.2 x.1.to := by
  obtain ⟨a, c, rfl⟩ := h.form
  obtain ⟨ho, ht⟩ := h
  rcases ho.2 with ⟨e, h0⟩ | ⟨g, cap, cur, e, hb, hg, hrest⟩
  · simp at h0
  · cases e
    refine ⟨g, c, by simp, hb, row_lt hg, ?_, frozen_of_row w g _ _ _ hg, (ht x (by simp)).1⟩
    have e1 := fl_get mne mne6 (nw ++ x :: old) nw.length 5 (by simp) (by omega)
    have := ho.cells (g := g) rfl (nw.length * 6 + 5) x.2 (by rw [e1]; simp [mne])
    rwa [Addr.add_lit, Nat.zero_add] at this
/-- Behind a store of a new union. -/
theorem MOwn.setTo {w : World} {base : Nat} {P : Nat → Prop} {g n c : Nat} {nw old : List (Mnt × Value)} {x : Mnt × Value} (h : MOwn w base P (.slice (some ⟨g, 0, none⟩) n c) (nw ++ x :: old)) {tv : Value} {u : List Tgt} (hu : Tgts w tv u) (hp : u ≠ [] → ∃ b, tv.ownBlock = some b ∧ P b ∧ b ≠ g) :
    MOwn (w.setCell ⟨g, nw.length * 6 + 5, none⟩ tv) base P (.slice (some ⟨g, 0, none⟩) n c) (nw ++ (⟨x.1.fr, u⟩, tv) :: old) := by
  obtain ⟨ho, ht⟩ := h
  have hn : n = (nw ++ x :: old).length := by
    obtain ⟨a', c', e⟩ := own_lt ho
    cases e; rfl
  have hl : (nw ++ (⟨x.1.fr, u⟩, tv) :: old).length = (nw ++ x :: old).length := by simp
  refine ⟨?_, fun r hr => ?_⟩
  · subst hn
    have := ho.stored (nw.length * 6 + 5) tv
    rw [fl_set mne mne6 nw old x (⟨x.1.fr, u⟩, tv) 5 (by omega) tv rfl] at this
    rw [hl]
    exact this.1
  · have hk : ∀ (tv' : Value) (l : List Tgt), Tgts w tv' l → (l ≠ [] → ∃ b, tv'.ownBlock = some b ∧ P b ∧ b ≠ g) → Tgts (w.setCell ⟨g, nw.length * 6 + 5, none⟩ tv) tv' l ∧ (l ≠ [] → ∃ b, tv'.ownBlock = some b ∧ P b ∧ (Value.slice (some ⟨g, 0, none⟩) n c).ownBlock ≠ some b) := fun tv' l h1 h2 => by
      refine ⟨h1.keep (by simp) (fun b hb hn => ?_), fun hn => ?_⟩
      · obtain ⟨b', e1, e2, e3⟩ := h2 hn
        rw [hb] at e1; cases e1
        exact Below.heap_setCell _ _ _ _ e3
      · obtain ⟨b', e1, e2, e3⟩ := h2 hn
        exact ⟨b', e1, e2, fun e => e3 (by simp [Value.ownBlock] at e; exact e.symm)⟩
    have hold : ∀ y ∈ nw ++ x :: old, Tgts w y.2 y.1.to ∧ (y.1.to ≠ [] → ∃ b, y.2.ownBlock = some b ∧ P b ∧ b ≠ g) := fun y hy => by
      refine ⟨(ht y hy).1, fun hn => ?_⟩
      obtain ⟨b, e1, e2, e3⟩ := (ht y hy).2 hn
      exact ⟨b, e1, e2, fun e => e3 (by rw [← e]; rfl)⟩
    rcases List.mem_append.1 hr with hr | hr
    · have := hold r (by simp [hr]); exact hk _ _ this.1 this.2
    · rcases List.mem_cons.1 hr with rfl | hr
      · exact hk _ _ hu hp
      · have := hold r (by simp [hr]); exact hk _ _ this.1 this.2
theorem CpSt.setTo {w W : World} {g gr n c : Nat} {id : Int} {r : Chn} {nw old : List (Mnt × Value)} {x : Mnt × Value} (h : CpSt w W g id r (.slice (some ⟨gr, 0, none⟩) n c) nw (x :: old)) {W0 : World} (hW0 : w.heap.size + 2 ≤ W0.heap.size) (hg0 : g < W0.heap.size) (hgr : gr < W0.heap.size) {tv : Value} (hu : TOwn W W0.heap.size tv x.1.to) :
    CpSt w (W.setCell ⟨gr, nw.length * 6 + 5, none⟩ tv) g id r (.slice (some ⟨gr, 0, none⟩) n c) (nw ++ [(x.1, tv)]) old := by
  obtain ⟨h0, h1, h2, h3, h4, h5⟩ := h
  have hgr0 : w.heap.size + 2 ≤ gr := (h3.1.lt gr rfl).1
  have hng : gr ≠ g := fun e => own_ne h3.1 h1 (by decide) (by rw [← e]; rfl)
  have hs := h3.setTo hu.tgts (fun hn => by
    obtain ⟨b, e1, e2, e3⟩ := hu.block hn
    exact ⟨b, e1, ⟨by omega, by omega⟩, by omega⟩)
  refine ⟨?_, ?_, h2, by rw [List.append_assoc]; exact hs, fun y hy hn => ?_, h5.setCell (p := ⟨gr, _, none⟩) (by show w.heap.size ≤ gr; omega) _⟩
  · rw [Below.heap_setCell _ _ _ _ (by show w.heap.size + 1 ≠ gr; omega)]; exact h0
  · rw [Below.heap_setCell _ _ _ _ (by show g ≠ gr; omega)]; exact h1
  · rcases List.mem_append.1 hy with hy | hy
    · exact h4 y hy hn
    · rcases List.mem_singleton.1 hy with rfl
      obtain ⟨b, e1, e2, e3⟩ := hu.block hn
      exact ⟨b, e1, by omega⟩
theorem grown_refl (W : World) (p : Nat) : W.grownBy W (some p) := ⟨rfl, rfl, rfl, Nat.le_refl _, fun _ _ _ => rfl⟩
theorem grown_set {W W' : World} {p : Nat} (h : W.grownBy W' (some p)) (o : Nat) (u : Value) : W.grownBy (W'.setCell ⟨p, o, none⟩ u) (some p) :=
  ⟨h.os, h.tape, h.output, by simpa using h.size, fun k hk hne => by rw [Below.heap_setCell _ _ _ _ (fun e => hne (by rw [show k = p from e]))]; exact h.block k hk hne⟩
theorem grown_below {w W W' : World} {p : Nat} (h : Below w.heap.size w W) (hg : W.grownBy W' (some p)) (hp : w.heap.size ≤ p) : Below w.heap.size w W' := h.grown hg h.size (fun k hk => by cases hk; exact hp)
theorem MOwn.grown {W W' : World} {base p : Nat} {P : Nat → Prop} {v : Value} {rs : List (Mnt × Value)} (h : MOwn W base P v rs) (hg : W.grownBy W' (some p)) (hP : ¬ P p) (hv : v.ownBlock ≠ some p) : MOwn W' base P v rs := by
  refine ⟨h.1.kept hg (.inr hv), fun r hr => ⟨(h.2 r hr).1.keep hg.size (fun b hb hn => ?_), (h.2 r hr).2⟩⟩
  obtain ⟨b', e1, e2, e3⟩ := (h.2 r hr).2 hn
  rw [hb] at e1; cases e1
  obtain ⟨b', e1', hlt⟩ := (h.2 r hr).1.block hn
  rw [hb] at e1'; cases e1'
  exact hg.block b hlt (fun e => hP (by cases e; exact e2))
theorem grown_alloc2 (W : World) (A B : Obj) : (W.alloc A).grownBy (W.alloc B) (some W.heap.size) :=
  ⟨rfl, rfl, rfl, by simp, fun k hk hne => by
    have hk' : k < W.heap.size := by
      have : k ≠ W.heap.size := fun e => hne (by rw [e])
      simp at hk; omega
    rw [Lib.alloc_old W A k hk', Lib.alloc_old W B k hk']⟩
theorem CpSt.done {w W W' : World} {g : Nat} {id : Int} {r : Chn} {v : Value} {nw : List (Mnt × Value)} (h : CpSt w W g id r v nw []) (hg : W.grownBy W' (some (w.heap.size + 1))) :
    MList W' w.heap.size (w.heap.size ≤ ·) v (nw.map (·.1)) ∧ Below w.heap.size w W' := by
  obtain ⟨h0, h1, h2, h3, h4, h5⟩ := h
  rw [List.append_nil] at h3
  have hm := h3.grown hg (fun e => e.2 rfl) (own_ne h3.1 h0 (by decide))
  refine ⟨⟨nw, rfl, hm.1.mono (by omega), fun r hr => ⟨(hm.2 r hr).1, fun hn => ?_⟩⟩, grown_below h5 hg (by omega)⟩
  obtain ⟨b, e1, e2, e3⟩ := (hm.2 r hr).2 hn
  obtain ⟨b', e1', hle⟩ := h4 r hr hn
  rw [e1] at e1'; cases e1'
  exact ⟨b, e1, hle, e3⟩
theorem ns_stored {W : World} {g : Nat} {a0 a1 a2 a3 a4 a5 a6 : Value} (b0 b1 b2 b3 b4 b5 b6 : Value) (h : W.heap[g]? = some (.cells #[a0, a1, a2, a3, a4, a5, a6] 26 (0, 0))) :
    (((((((W.setCell ⟨g, 0, none⟩ b0).setCell ⟨g, 1, none⟩ b1).setCell ⟨g, 2, none⟩ b2).setCell ⟨g, 3, none⟩ b3).setCell ⟨g, 4, none⟩ b4).setCell ⟨g, 5, none⟩ b5).setCell ⟨g, 6, none⟩ b6).heap[g]? = some (.cells #[b0, b1, b2, b3, b4, b5, b6] 26 (0, 0)) ∧
    W.grownBy (((((((W.setCell ⟨g, 0, none⟩ b0).setCell ⟨g, 1, none⟩ b1).setCell ⟨g, 2, none⟩ b2).setCell ⟨g, 3, none⟩ b3).setCell ⟨g, 4, none⟩ b4).setCell ⟨g, 5, none⟩ b5).setCell ⟨g, 6, none⟩ b6) (some g) := by
  have h0 : (W.setCell ⟨g, 0, none⟩ b0).heap[g]? = some (.cells #[b0, a1, a2, a3, a4, a5, a6] 26 (0, 0)) := heap_setCell_same _ g 0 _ _ b0 h
  have h1 : ((W.setCell ⟨g, 0, none⟩ b0).setCell ⟨g, 1, none⟩ b1).heap[g]? = some (.cells #[b0, b1, a2, a3, a4, a5, a6] 26 (0, 0)) := heap_setCell_same _ g 1 _ _ b1 h0
  have h2 : (((W.setCell ⟨g, 0, none⟩ b0).setCell ⟨g, 1, none⟩ b1).setCell ⟨g, 2, none⟩ b2).heap[g]? = some (.cells #[b0, b1, b2, a3, a4, a5, a6] 26 (0, 0)) := heap_setCell_same _ g 2 _ _ b2 h1
  have h3 : ((((W.setCell ⟨g, 0, none⟩ b0).setCell ⟨g, 1, none⟩ b1).setCell ⟨g, 2, none⟩ b2).setCell ⟨g, 3, none⟩ b3).heap[g]? = some (.cells #[b0, b1, b2, b3, a4, a5, a6] 26 (0, 0)) := heap_setCell_same _ g 3 _ _ b3 h2
  have h4 : (((((W.setCell ⟨g, 0, none⟩ b0).setCell ⟨g, 1, none⟩ b1).setCell ⟨g, 2, none⟩ b2).setCell ⟨g, 3, none⟩ b3).setCell ⟨g, 4, none⟩ b4).heap[g]? = some (.cells #[b0, b1, b2, b3, b4, a5, a6] 26 (0, 0)) := heap_setCell_same _ g 4 _ _ b4 h3
  have h5 : ((((((W.setCell ⟨g, 0, none⟩ b0).setCell ⟨g, 1, none⟩ b1).setCell ⟨g, 2, none⟩ b2).setCell ⟨g, 3, none⟩ b3).setCell ⟨g, 4, none⟩ b4).setCell ⟨g, 5, none⟩ b5).heap[g]? = some (.cells #[b0, b1, b2, b3, b4, b5, a6] 26 (0, 0)) := heap_setCell_same _ g 5 _ _ b5 h4
  have h6 : (((((((W.setCell ⟨g, 0, none⟩ b0).setCell ⟨g, 1, none⟩ b1).setCell ⟨g, 2, none⟩ b2).setCell ⟨g, 3, none⟩ b3).setCell ⟨g, 4, none⟩ b4).setCell ⟨g, 5, none⟩ b5).setCell ⟨g, 6, none⟩ b6).heap[g]? = some (.cells #[b0, b1, b2, b3, b4, b5, b6] 26 (0, 0)) := heap_setCell_same _ g 6 _ _ b6 h5
  exact ⟨h6, grown_set (grown_set (grown_set (grown_set (grown_set (grown_set (grown_set (grown_refl W g) 0 b0) 1 b1) 2 b2) 3 b3) 4 b4) 5 b5) 6 b6⟩
theorem MList.weak {w : World} {base base' : Nat} {P P' : Nat → Prop} {v : Value} {ms : List Mnt} (h : MList w base P v ms) (hb : base' ≤ base) (hp : ∀ b, P b → b < w.heap.size → P' b) : MList w base' P' v ms := by
  obtain ⟨rs, e, h⟩ := h; exact ⟨rs, e, h.weak hb hp⟩
theorem MList.below {w w' : World} {base : Nat} {P : Nat → Prop} {v : Value} {ms : List Mnt} (h : MList w base P v ms) (hb : Below w.heap.size w w') : MList w' base P v ms := by
  obtain ⟨rs, e, h⟩ := h; exact ⟨rs, e, h.below hb⟩
theorem CpSt.start {w w1 W' : World} {g : Nat} {id : Int} {r : Chn} {v : Value} {ms : List Mnt} {cs : Array Value} (hm : MList w1 (w.heap.size + 2) (· < w.heap.size) v ms)
    (hz : w1.heap[w.heap.size + 1]? = some (.cells #[.int .i64 0, .int .i64 0, .int .i64 0, .int .i64 0, .string ⟨#[]⟩, .string ⟨#[]⟩, .slice none 0 0] 26 (0, 0)))
    (hb : Below w.heap.size w w1) (hg : w.heap.size + 2 ≤ g) (hg0 : w1.heap[g]? = some (.cells cs 26 (0, 0)))
    (hgb : W'.heap[g]? = some (.cells #[.int .i64 id, .int .i64 r.dev, .int .i64 r.id, .int .i64 r.fid, .string (T r.path), .string (T r.name), v] 26 (0, 0))) (hgrow : w1.grownBy W' (some g)) :
    ∃ rs : List (Mnt × Value), rs.map (·.1) = ms ∧ CpSt w W' g id r v [] rs := by
  obtain ⟨rs, e, hm⟩ := hm
  refine ⟨rs, e, (hgrow.block _ (row_lt hz) (fun e => by cases e; omega)).trans hz, hgb, hg, ?_, (fun r hr => nomatch hr), grown_below hb hgrow (by omega)⟩
  exact (hm.weak (Nat.le_refl _) (fun b hb _ => ⟨by omega, by omega⟩)).grown hgrow (fun e => e.1 rfl) (own_ne hm.1 hg0 (by decide))
/-- What region 1 of Copy reads. -/
def CpR (w W : World) (id : Int) (r : Chn) (v : Value) : Prop :=
  W.heap[w.heap.size]? = some (.cells #[.int .i64 id, .int .i64 r.dev, .int .i64 r.id, .int .i64 r.fid, .string (T r.path), .string (T r.name), v] 26 (0, 0)) ∧
  W.heap[w.heap.size + 1]? = some (.cells #[.int .i64 0, .int .i64 0, .int .i64 0, .int .i64 0, .string ⟨#[]⟩, .string ⟨#[]⟩, .slice none 0 0] 26 (0, 0)) ∧ Below w.heap.size w W
theorem CpR.next {w W W' : World} {id : Int} {r : Chn} {v : Value} (h : CpR w W id r v) (hb : Below W.heap.size W W') : CpR w W' id r v :=
  ⟨(hb.block _ (row_lt h.1)).trans h.1, (hb.block _ (row_lt h.2.1)).trans h.2.1, bnext h.2.2 hb⟩
theorem CpR.grown {w W W' : World} {id : Int} {r : Chn} {v : Value} {g : Nat} (h : CpR w W id r v) (hg : W.grownBy W' (some g)) (hge : w.heap.size + 2 ≤ g) : CpR w W' id r v :=
  ⟨(hg.block _ (row_lt h.1) (fun e => by cases e; omega)).trans h.1, (hg.block _ (row_lt h.2.1) (fun e => by cases e; omega)).trans h.2.1, grown_below h.2.2 hg (by omega)⟩
abbrev CpRS (w W : World) (id : Int) (r : Chn) (v : Value) : Prop :=
  W.cell? ⟨w.heap.size, 0, none⟩ = some (.int .i64 id) ∧ W.cell? ⟨w.heap.size, 1, none⟩ = some (.int .i64 r.dev) ∧ W.cell? ⟨w.heap.size, 2, none⟩ = some (.int .i64 r.id) ∧ W.cell? ⟨w.heap.size, 3, none⟩ = some (.int .i64 r.fid) ∧ W.cell? ⟨w.heap.size, 4, none⟩ = some (.string (T r.path)) ∧ W.cell? ⟨w.heap.size, 5, none⟩ = some (.string (T r.name)) ∧ W.cell? ⟨w.heap.size, 6, none⟩ = some v ∧ CpR w W id r v
theorem CpR.reads {w W : World} {id : Int} {r : Chn} {v : Value} (h : CpR w W id r v) : CpRS w W id r v := by
  obtain ⟨⟨h0, h1, h2, h3, h4, h5, h6⟩, _⟩ := ns_reads h.1
  exact ⟨h0, h1, h2, h3, h4, h5, h6, h⟩
theorem CpRS.r {w W : World} {id : Int} {r : Chn} {v : Value} (h : CpRS w W id r v) : CpR w W id r v := h.2.2.2.2.2.2.2
theorem CpR.begin (w : World) (id : Int) (r : Chn) (v : Value) : CpR w ((w.alloc (.cells #[.int .i64 id, .int .i64 r.dev, .int .i64 r.id, .int .i64 r.fid, .string (T r.path), .string (T r.name), v] 26)).alloc (.cells #[.int .i64 0, .int .i64 0, .int .i64 0, .int .i64 0, .string ⟨#[]⟩, .string ⟨#[]⟩, .slice none 0 0] 26)) id r v := by
  refine ⟨(Lib.alloc_old _ _ _ (by simp)).trans (heap_alloc_new _ _), ?_, ((Below.refl _ _).alloc (Nat.le_refl _) _).alloc (by simp) _⟩
  have := heap_alloc_new (w.alloc (.cells #[.int .i64 id, .int .i64 r.dev, .int .i64 r.id, .int .i64 r.fid, .string (T r.path), .string (T r.name), v] 26)) (.cells #[.int .i64 0, .int .i64 0, .int .i64 0, .int .i64 0, .string ⟨#[]⟩, .string ⟨#[]⟩, .slice none 0 0] 26)
  simpa using this
set_option maxRecDepth 20000 in
set_option maxHeartbeats 4000000 in
theorem mcopy_any (id : Int) (r : Chn) (v : Value) (ms : List Mnt) (id2 : Int) (w : World) (hv : Mnts w v ms) (hl : ms.length ≤ 1000000) (hu : ∀ m ∈ ms, m.to.length ≤ 1000000) :
    Calls Try.prog 17 #[nsv id r v, .int .i64 id2] w fun e w' => ∃ v', e = .returned (nsv id2 r v') ∧ MList w' w.heap.size (w.heap.size ≤ ·) v' ms ∧ Below w.heap.size w w' := by
  obtain ⟨ao, n, cp, rfl⟩ := hv.form
  have HB := Lib.hid (Below.refl w.heap.size w)
  have HC := Lib.hid (fun (W : World) (h : CpRS w W id r (.slice ao n cp)) => (mclone_any (.slice ao n cp) ms w W hv h.r.2.2 hl).mono fun e w' h' => (show ∃ a1 c1, e = .returned (.slice a1 ms.length c1) ∧ MList w' W.heap.size (· < w.heap.size) (.slice a1 ms.length c1) ms ∧ Below W.heap.size W w' ∧ CpRS w w' id r (.slice ao n cp) from by
    obtain ⟨v1, e1, e2, e3⟩ := h'; obtain ⟨a1, c1, rfl⟩ := e2.form; exact ⟨a1, c1, e1, e2, e3, (h.r.next e3).reads⟩))
  have HC2 := Lib.hid (fun (W : World) (p : Nat) (h : CpRS w W id r (.slice ao n cp)) (hp : W.heap[p]? = some (.cells #[.int .i64 0, .int .i64 0, .int .i64 0, .int .i64 0, .string ⟨#[]⟩, .string ⟨#[]⟩, .slice none 0 0] 26 (0, 0))) => (HC.out W h).mono fun e w' h' => (show ∃ a1 c1, e = .returned (.slice a1 ms.length c1) ∧ MList w' W.heap.size (· < w.heap.size) (.slice a1 ms.length c1) ms ∧ Below W.heap.size W w' ∧ CpRS w w' id r (.slice ao n cp) ∧ w'.heap[p]? = some (.cells #[.int .i64 0, .int .i64 0, .int .i64 0, .int .i64 0, .string ⟨#[]⟩, .string ⟨#[]⟩, .slice none 0 0] 26 (0, 0)) ∧
      (w'.cell? ⟨p, 0, none⟩ = some (.int .i64 0) ∧ w'.cell? ⟨p, 1, none⟩ = some (.int .i64 0) ∧ w'.cell? ⟨p, 2, none⟩ = some (.int .i64 0) ∧ w'.cell? ⟨p, 3, none⟩ = some (.int .i64 0) ∧ w'.cell? ⟨p, 4, none⟩ = some (.string ⟨#[]⟩) ∧ w'.cell? ⟨p, 5, none⟩ = some (.string ⟨#[]⟩) ∧ w'.cell? ⟨p, 6, none⟩ = some (.slice none 0 0)) ∧
      (w'.frozen? ⟨p, 0, none⟩ = false ∧ w'.frozen? ⟨p, 1, none⟩ = false ∧ w'.frozen? ⟨p, 2, none⟩ = false ∧ w'.frozen? ⟨p, 3, none⟩ = false ∧ w'.frozen? ⟨p, 4, none⟩ = false ∧ w'.frozen? ⟨p, 5, none⟩ = false ∧ w'.frozen? ⟨p, 6, none⟩ = false) from by
    obtain ⟨a1, c1, e1, e2, e3, e4⟩ := h'
    have hq := (e3.block _ (row_lt hp)).trans hp
    exact ⟨a1, c1, e1, e2, e3, e4, hq, (ns_reads hq).1, (ns_reads hq).2⟩))
  have HR0 := Lib.hid (CpR.begin w id r (.slice ao n cp))
  clear hv
  unfold nsv
  go_enter Try.func17, Try.ntmps17
  go_upto_region 1 with fail
  have HSZ : Hid (((w.alloc (.cells #[.int .i64 id, .int .i64 r.dev, .int .i64 r.id, .int .i64 r.fid, .string (T r.path), .string (T r.name), .slice ao n cp] 26)).alloc (.cells #[.int .i64 0, .int .i64 0, .int .i64 0, .int .i64 0, .string ⟨#[]⟩, .string ⟨#[]⟩, .slice none 0 0] 26)).heap.size = w.heap.size + 2) := (by simp : _ = _)
  generalize (w.alloc (.cells #[.int .i64 id, .int .i64 r.dev, .int .i64 r.id, .int .i64 r.fid, .string (T r.path), .string (T r.name), .slice ao n cp] 26)).alloc (.cells #[.int .i64 0, .int .i64 0, .int .i64 0, .int .i64 0, .string ⟨#[]⟩, .string ⟨#[]⟩, .slice none 0 0] 26) = W2 at *
  obtain ⟨r0, r1, r2, r3, r4, r5, r6, r7⟩ := HR0.out.reads
  have HRd : Hid (CpRS w W2.drew id r (.slice ao n cp)) := (HR0.out.next (below_drewN (Below.refl _ _) 1)).reads
  go_cut [5] (fun p w' => ∃ (g : Nat) (v1 : Value) (rs : List (Mnt × Value)), p = .pointer (some ⟨g, 0, none⟩) ∧ rs.map (·.1) = ms ∧ CpSt w w' g id2 r v1 [] rs)
  case first =>
    have KA : ∀ {W : World} (b : Obj), CpRS w W id r (.slice ao n cp) → CpRS w (W.alloc b) id r (.slice ao n cp) := fun b h => (h.r.next ((Below.refl _ _).alloc (Nat.le_refl _) b)).reads
    have KAd : ∀ (b : Obj), CpRS w (W2.alloc b).drew id r (.slice ao n cp) := fun b => KA b HRd.out
    have KGE : ∀ {W : World}, CpRS w W id r (.slice ao n cp) → w.heap.size + 2 ≤ W.heap.size := fun h => by have := row_lt h.r.2.1; omega
    have HGE : Hid (w.heap.size + 2 ≤ W2.heap.size) := Nat.le_of_eq HSZ.out.symm
    have KS : ∀ {W : World} (g : Nat) (b0 b1 b2 b3 b4 b5 b6 : Value), w.heap.size + 2 ≤ g → CpRS w W id r (.slice ao n cp) → CpRS w (((((((W.setCell ⟨g, 0, none⟩ b0).setCell ⟨g, 1, none⟩ b1).setCell ⟨g, 2, none⟩ b2).setCell ⟨g, 3, none⟩ b3).setCell ⟨g, 4, none⟩ b4).setCell ⟨g, 5, none⟩ b5).setCell ⟨g, 6, none⟩ b6) id r (.slice ao n cp) := fun g b0 b1 b2 b3 b4 b5 b6 hg h =>
      (h.r.grown (g := g) (grown_set (grown_set (grown_set (grown_set (grown_set (grown_set (grown_set (grown_refl _ g) 0 b0) 1 b1) 2 b2) 3 b3) 4 b4) 5 b5) 6 b6) hg).reads
    go_region_held_law (fun w' => CpRS w w' id r (.slice ao n cp)) (first | (with_reducible assumption) | (with_reducible exact HRd.out) | (with_reducible exact KAd _) | (with_reducible exact KA _ (by assumption)) | (with_reducible exact KS _ _ _ _ _ _ _ _ (by first | exact HGE.out | exact KGE (by assumption)) (by assumption))) (first | (go_at_call 38; refine (HC2.out _ W2.heap.size (by assumption) (show (W2.drew.alloc _).heap[W2.heap.size]? = _ from heap_alloc_new _ _)).mono ?_; rintro e w' ⟨a1, c1, rfl, hm, hbw, hkeep, hz, ⟨z0, z1, z2, z3, z4, z5, z6⟩, ⟨y0, y1, y2, y3, y4, y5, y6⟩⟩) | (go_at_call 38; refine (HC.out _ (by assumption)).mono ?_; rintro e w' ⟨a1, c1, rfl, hm, hbw, hkeep⟩))
    all_goals
      go_wp2_with fail
      go_meet
      first
        | (obtain ⟨rs, e1, e2⟩ := CpSt.start (g := W2.heap.size) (id := id2) (r := r) (hm.weak (show w.heap.size + 2 ≤ (W2.drew.alloc _).heap.size by have := HGE.out; simp; omega) (fun b h _ => h)) hkeep.r.2.1 hkeep.r.2.2 HGE.out hz (ns_stored _ _ _ _ _ _ _ hz).1 (ns_stored _ _ _ _ _ _ _ hz).2
           exact ⟨_, _, rs, rfl, e1, e2⟩)
        | (have hq := heap_alloc_new w' (.cells #[.int .i64 0, .int .i64 0, .int .i64 0, .int .i64 0, .string ⟨#[]⟩, .string ⟨#[]⟩, .slice none 0 0] 26)
           have hk := (KA (.cells #[.int .i64 0, .int .i64 0, .int .i64 0, .int .i64 0, .string ⟨#[]⟩, .string ⟨#[]⟩, .slice none 0 0] 26) hkeep).r
           obtain ⟨rs, e1, e2⟩ := CpSt.start (g := w'.heap.size) (id := id2) (r := r) ((hm.weak (show w.heap.size + 2 ≤ W2.drew.heap.size from HGE.out) (fun b h _ => h)).below ((Below.refl _ _).alloc (Nat.le_refl _) _)) hk.2.1 hk.2.2 (KGE hkeep) hq (heap_alloc_new _ _) (grown_alloc2 _ _ _)
           exact ⟨_, _, rs, rfl, e1, e2⟩)
  case rest =>
    obtain ⟨g, v1, rs, rfl, hrs, hst⟩ := hcut
    subst hrs
    rw [List.length_map] at hl
    have HST := Lib.hid hst
    have HU := Lib.hid hu
    clear hst hu HC HC2 HR0 HRd HSZ r0 r1 r2 r3 r4 r5 r6 r7 W2
    generalize wc = W3 at *
    obtain ⟨a1, c1, rfl⟩ := HST.out.2.2.2.1.form
    obtain ⟨⟨q0, q1, q2, q3, q4, q5, q6⟩, _⟩ := ns_reads HST.out.2.1
    rw [List.nil_append] at q6
    clear q0 q1 q2 q3 q4 q5
    have hli : (rs.length : Int) ≤ 1000000 := by omega
    go_wp2_with fail
    go_loopw [17] (fun i wr => ∃ (nw old : List (Mnt × Value)), i = .int .i64 (nw.length : Int) ∧ nw.length + old.length = rs.length ∧ Hid (nw.map (·.1) ++ old.map (·.1) = rs.map (·.1)) ∧ Hid (CpSt w wr g id2 r (.slice a1 rs.length c1) nw old)) (fun i _ => rs.length - (intOf i).toNat)
    case atStart => exact ⟨[], rs, rfl, by simp, (by simp : _ = _), HST.out⟩
    case round =>
      obtain ⟨nw, old, rfl, hlen, HE, HSR⟩ := hrel
      clear q6
      cases old with
      | nil =>
        obtain ⟨⟨q0, q1, q2, q3, q4, q5, q6⟩, _⟩ := ns_reads HSR.out.2.1
        obtain ⟨⟨z0, z1, z2, z3, z4, z5, z6⟩, ⟨y0, y1, y2, y3, y4, y5, y6⟩⟩ := ns_reads HSR.out.1
        have hq : (nw.length : Int) = rs.length := by simp at hlen; omega
        have HFI := Lib.hid (show nw.map (·.1) = rs.map (·.1) from by have := HE.out; simpa using this)
        have HDN := Lib.hid (fun (W' : World) (h : wr.grownBy W' (some (w.heap.size + 1))) => HSR.out.done h)
        clear HE
        rw [hq]
        have hnl : ¬ (rs.length : Int) < rs.length := by omega
        go_wp2_with fail
        have hq7 := ns_stored (.int .i64 id2) (.int .i64 r.dev) (.int .i64 r.id) (.int .i64 r.fid) (.string (T r.path)) (.string (T r.name)) (.slice a1 rs.length c1) HSR.out.1
        obtain ⟨⟨x0, x1, x2, x3, x4, x5, x6⟩, _⟩ := ns_reads hq7.1
        exact bodyPost_ret (v := .agg #[.int .i64 id2, .int .i64 r.dev, .int .i64 r.id, .int .i64 r.fid, .string (T r.path), .string (T r.name), .slice a1 rs.length c1]) (by simp [results, Try.results17, go_sem, x0, x1, x2, x3, x4, x5, x6]) rfl ⟨_, rfl, by rw [← HFI.out]; exact (HDN.out _ hq7.2).1, (HDN.out _ hq7.2).2⟩
      | cons x old =>
        have hq : (nw.length : Int) < rs.length := by simp at hlen; omega
        obtain ⟨gr, c, e, hb, hlt, rc, rf, htg⟩ := HSR.out.2.2.2.1.read
        injection e with e1 e2 e3
        subst e1 e3
        clear e2
        obtain ⟨⟨q0, q1, q2, q3, q4, q5, q6⟩, _⟩ := ns_reads HSR.out.2.1
        have hxl : x.1.to.length ≤ 1000000 := HU.out x.1 (by have := HE.out; rw [← this]; simp)
        obtain ⟨ta, tn, tc, htv⟩ := htg.form
        have HRF := Lib.hid rf
        rw [htv] at rc
        have HCL := Lib.hid ((tclone_any x.2 x.1.to wr.drew (htg.below (below_drewN (Below.refl _ _) 1)) hxl).mono fun e w' h' => (show ∃ a2 n2 c2, e = .returned (.slice a2 n2 c2) ∧ TOwn w' wr.heap.size (.slice a2 n2 c2) x.1.to ∧ Below wr.heap.size wr w' ∧ w'.cell? ⟨g, 6, none⟩ = some (.slice (some ⟨gr, 0, none⟩) rs.length c1) ∧ w'.cell? ⟨gr, nw.length * 6 + 5, none⟩ = some (.slice ta tn tc) ∧ w'.frozen? ⟨gr, nw.length * 6 + 5, none⟩ = false from by
          obtain ⟨v2, k1, k2, k3⟩ := h'
          obtain ⟨a2, c2, rfl⟩ := own_lt k2
          have k4 : Below wr.heap.size wr w' := ⟨k3.os, k3.tape, k3.output, k3.size, k3.block⟩
          exact ⟨a2, _, c2, k1, k2, k4, cell_next q6 k4, cell_next rc k4, by rw [k4.frozen (p := ⟨gr, nw.length * 6 + 5, none⟩) hlt]; exact rf⟩))
        rw [htv] at HCL
        clear q0 q1 q2 q3 q4 q5 htg
        go_upto_region 5 with fail
        go_region_law (go_simp; go_at_call 39; refine HCL.out.mono ?_; rintro e w' ⟨a2, n2, c2, rfl, k1, k2, k3, k4, k5⟩)
        all_goals
          go_wp2_with fail
          go_roundw
          case rel =>
            exact ⟨nw ++ [(x.1, .slice a2 n2 c2)], old, by simp, by simp at hlen ⊢; omega, Lib.hid (by have := HE.out; simpa using this), Lib.hid ((HSR.out.next k2).setTo (W0 := wr) (by have := HSR.out.2.2.2.2.2.size; have := row_lt HSR.out.1; omega) (row_lt HSR.out.2.1) hlt k1)⟩
          case measure => simp [intOf]; simp at hlen; omega
end Go.Proofs.Ytganenaaglfdnaa
