/- Rows of targets and of mounts as cells; what slices.Clone returns of both. Conditions: the slice holds the given list; at most 10^6 elements. -/
import Derived.Test.YtganenaaglfdnaaMntRight
import Derived.Deep.Slices
import Derived.ArgAppend
import Derived.Deep.AppendLies
import Derived.Deep.Onto
set_option linter.unusedVariables false
set_option linter.unusedSimpArgs false
namespace Go.Proofs.Ytganenaaglfdnaa
open Go.RowKit
/-! Rows of one's own (as in the block chapter). -/
theorem own_below {w w' : World} {base : Nat} {e : TypeId} {size n : Nat} {v : Value} {xs : List Value} (h : w.ownsRow base e size v n xs) (hb : Below w.heap.size w w') : w'.ownsRow base e size v n xs := by
  refine ⟨h.1, ?_⟩
  rcases h.2 with h | ⟨g, cap, cur, hv, hg, hrow, hrest⟩
  · exact .inl h
  · refine .inr ⟨g, cap, cur, hv, hg, ?_, hrest⟩
    have hlt2 : g < w.heap.size := by
      rcases Nat.lt_or_ge g w.heap.size with h' | h'
      · exact h'
      · simp [Array.getElem?_eq_none h'] at hrow
    exact (hb.block g hlt2).trans hrow
theorem own_ne {w : World} {base : Nat} {e e2 : TypeId} {size n p : Nat} {v : Value} {xs : List Value} {cs : Array Value} {fr : Nat × Nat} (h : w.ownsRow base e size v n xs) (hp : w.heap[p]? = some (.cells cs e2 fr)) (hne : e ≠ e2) : v.ownBlock ≠ some p := by
  intro hv
  rcases h.2 with ⟨rfl, _⟩ | ⟨g, cap, cur, rfl, hg, hrow, hrest⟩
  · simp [Value.ownBlock] at hv
  · simp only [Value.ownBlock, Option.some.injEq] at hv
    subst hv
    rw [hp] at hrow
    injection hrow with hrow
    injection hrow with _ hrow _
    exact hne hrow.symm
theorem own_set {w : World} {base : Nat} {e e2 : TypeId} {size n p : Nat} {v : Value} {xs : List Value} {cs : Array Value} {fr : Nat × Nat} (h : w.ownsRow base e size v n xs) (hp : w.heap[p]? = some (.cells cs e2 fr)) (hne : e ≠ e2) (o : Nat) (u : Value) : (w.setCell ⟨p, o, none⟩ u).ownsRow base e size v n xs := by
  have hn := own_ne h hp hne
  refine ⟨h.1, ?_⟩
  rcases h.2 with h | ⟨g, cap, cur, rfl, hg, hrow, hrest⟩
  · exact .inl h
  · refine .inr ⟨g, cap, cur, rfl, hg, ?_, hrest⟩
    rw [Below.heap_setCell _ _ _ _ (fun e => hn (by simp [Value.ownBlock, e]))]
    exact hrow
/-! Lists of elements of six cells each. -/
section
variable {α : Type} (enc : α → List Value)
def fl : List α → List Value
  | [] => []
  | x :: l => enc x ++ fl l
theorem fl_append (a b : List α) : fl enc (a ++ b) = fl enc a ++ fl enc b := by
  induction a with
  | nil => rfl
  | cons x a ih => simp only [List.cons_append, fl, ih, List.append_assoc]
variable (h6 : ∀ x, (enc x).length = 6)
include h6
theorem fl_length (l : List α) : (fl enc l).length = l.length * 6 := by
  induction l with
  | nil => rfl
  | cons x l ih => simp only [fl, List.length_append, h6, ih, List.length_cons]; omega
theorem fl_get : ∀ (l : List α) (j i : Nat) (hj : j < l.length) (hi : i < 6), (fl enc l)[j * 6 + i]? = (enc l[j])[i]? := by
  intro l
  induction l with
  | nil => intro j i hj; simp at hj
  | cons x l ih =>
    intro j i hj hi
    cases j with
    | zero => simp only [fl, Nat.zero_mul, Nat.zero_add, List.getElem_cons_zero]; rw [List.getElem?_append_left (by rw [h6]; exact hi)]
    | succ j =>
      have := ih j i (by simpa using hj) hi
      simp only [fl, List.getElem_cons_succ]
      rw [List.getElem?_append_right (by rw [h6]; omega), h6, show (j + 1) * 6 + i - 6 = j * 6 + i from by omega]
      exact this
theorem fl_take (l : List α) (i : Nat) : (fl enc l).take (i * 6) = fl enc (l.take i) := by
  induction l generalizing i with
  | nil => simp [fl]
  | cons x l ih =>
    cases i with
    | zero => simp [fl]
    | succ i =>
      rw [List.take_succ_cons]
      simp only [fl]
      rw [List.take_append, h6, show (i + 1) * 6 - 6 = i * 6 from by omega, ih, List.take_of_length_le (by rw [h6]; omega)]
theorem fl_drop (l : List α) (i : Nat) : (fl enc l).drop (i * 6) = fl enc (l.drop i) := by
  induction l generalizing i with
  | nil => simp [fl]
  | cons x l ih =>
    cases i with
    | zero => simp [fl]
    | succ i =>
      rw [List.drop_succ_cons]
      simp only [fl]
      rw [List.drop_append, h6, show (i + 1) * 6 - 6 = i * 6 from by omega, ih, List.drop_of_length_le (by rw [h6]; omega), List.nil_append]
theorem fl_set (a b : List α) (x y : α) (i : Nat) (hi : i < 6) (u : Value) (hy : enc y = (enc x).set i u) : (fl enc (a ++ x :: b)).set (a.length * 6 + i) u = fl enc (a ++ y :: b) := by
  rw [fl_append, fl_append, List.set_append_right _ _ (by rw [fl_length enc h6]; omega), fl_length enc h6, show a.length * 6 + i - a.length * 6 = i from by omega]
  congr 1
  simp only [fl]
  rw [List.set_append_left _ _ (by rw [h6]; exact hi), hy]
theorem fl_cells (w : World) (b off : Nat) (l : List α) (hc : ∀ j (h : j < l.length) i u, (enc l[j])[i]? = some u → w.cell? ⟨b, off + j * 6 + i, none⟩ = some u) : ∀ k u, (fl enc l)[k]? = some u → w.cell? ⟨b, off + k, none⟩ = some u := by
  intro k u hu
  have hk : k < l.length * 6 := by
    rw [← fl_length enc h6]
    exact (List.getElem?_eq_some_iff.1 hu).1
  have hj : k / 6 < l.length := by omega
  have e := fl_get enc h6 l (k / 6) (k % 6) hj (by omega)
  rw [show k / 6 * 6 + k % 6 = k from by omega] at e
  have := hc (k / 6) hj (k % 6) u (e.symm.trans hu)
  rwa [show off + k / 6 * 6 + k % 6 = off + k from by omega] at this
end
theorem fl_one {α : Type} {enc : α → List Value} (h1 : ∀ x, ∀ u ∈ enc x, u.oneCell' = true) (l : List α) : ∀ u ∈ fl enc l, u.oneCell' = true := by
  induction l with
  | nil => intro u hu; cases hu
  | cons x l ih =>
    intro u hu
    simp only [fl, List.mem_append] at hu
    rcases hu with hu | hu
    · exact h1 x u hu
    · exact ih u hu
/-- The cells of a target; of a mount whose union is the given slice. -/
def tge (t : Tgt) : List Value := [.int .i64 t.ch.dev, .int .i64 t.ch.id, .int .i64 t.ch.fid, .string (T t.ch.path), .string (T t.ch.name), .bool t.cr]
def mne (r : Mnt × Value) : List Value := [.int .i64 r.1.fr.dev, .int .i64 r.1.fr.id, .int .i64 r.1.fr.fid, .string (T r.1.fr.path), .string (T r.1.fr.name), r.2]
theorem tge6 (t : Tgt) : (tge t).length = 6 := rfl
theorem mne6 (t : Mnt × Value) : (mne t).length = 6 := rfl
theorem tge1 (t : Tgt) : ∀ u ∈ tge t, u.oneCell' = true := by
  intro u hu
  simp only [tge, List.mem_cons, List.mem_nil_iff, or_false] at hu
  rcases hu with rfl | rfl | rfl | rfl | rfl | rfl <;> rfl
/-- The slices of the unions are slices. -/
theorem mnes1 {rs : List (Mnt × Value)} (h : ∀ r ∈ rs, ∃ a n c, r.2 = .slice a n c) : ∀ u ∈ fl mne rs, u.oneCell' = true := by
  induction rs with
  | nil => intro u hu; cases hu
  | cons x l ih =>
    intro u hu
    simp only [fl, mne, List.mem_append, List.mem_cons, List.mem_nil_iff, or_false] at hu
    rcases hu with (rfl | rfl | rfl | rfl | rfl | rfl) | hu
    · rfl
    · rfl
    · rfl
    · rfl
    · rfl
    · obtain ⟨a, n, c, e⟩ := h x (by simp)
      rw [e]; rfl
    · exact ih (fun r hr => h r (by simp [hr])) u hu
theorem tgts_nil (w : World) : Tgts w (.slice none 0 0) [] := ⟨none, 0, rfl, Nat.le_refl _, fun _ => rfl, fun j hj => by simp at hj⟩
theorem mnts_nil (w : World) : Mnts w (.slice none 0 0) [] := ⟨none, 0, rfl, Nat.le_refl _, fun _ => rfl, fun j hj => by simp at hj⟩
theorem Tgts.cells {w : World} {a : Addr} {n cap : Nat} {l : List Tgt} (h : Tgts w (.slice (some a) n cap) l) : ∀ j u, (fl tge l)[j]? = some u → w.cell? (a.add j) = some u ∧ (a.add j).block < w.heap.size := by
  obtain ⟨rfl, hc⟩ := h.at
  intro j u hu
  rcases Nat.eq_zero_or_pos l.length with h0 | h0
  · rw [List.eq_nil_of_length_eq_zero h0] at hu; simp [fl] at hu
  · obtain ⟨b, off, ha, hlt, _⟩ := hc 0 h0
    cases ha
    rw [Addr.add_lit]
    refine ⟨fl_cells tge tge6 w b off l (fun j hj i u hu => ?_) j u hu, hlt⟩
    obtain ⟨b', off', ha', _, ⟨c0, c1, c2, c3, c4⟩, c5⟩ := hc j hj
    cases ha'
    match i, hu with
    | 0, hu => simp [tge] at hu; subst hu; exact c0
    | 1, hu => simp [tge] at hu; subst hu; exact c1
    | 2, hu => simp [tge] at hu; subst hu; exact c2
    | 3, hu => simp [tge] at hu; subst hu; exact c3
    | 4, hu => simp [tge] at hu; subst hu; exact c4
    | 5, hu => simp [tge] at hu; subst hu; exact c5
    | i + 6, hu => simp [tge] at hu
/-- A row of targets of one's own. -/
def TOwn (w : World) (base : Nat) (v : Value) (l : List Tgt) : Prop := w.ownsRow base 51 6 v l.length (fl tge l)
theorem own_lt {w : World} {base n : Nat} {e : TypeId} {size : Nat} {v : Value} {xs : List Value} (h : w.ownsRow base e size v n xs) : ∃ a c, v = .slice a n c := by
  rcases h.2 with ⟨rfl, rfl⟩ | ⟨g, cap, cur, rfl, _⟩
  · exact ⟨_, _, rfl⟩
  · exact ⟨_, _, rfl⟩
theorem TOwn.tgts {w : World} {base : Nat} {v : Value} {l : List Tgt} (h : TOwn w base v l) : Tgts w v l := by
  unfold TOwn at h
  rcases h.2 with ⟨rfl, h0⟩ | ⟨g, cap, cur, rfl, hb, hg, hnc, hcm, hcs, htk⟩
  · rw [List.eq_nil_of_length_eq_zero h0]; exact tgts_nil w
  · refine ⟨some ⟨g, 0, none⟩, cap, rfl, hnc, (fun h => nomatch h), fun j hj => ⟨g, 0, rfl, row_lt hg, ?_, ?_⟩⟩
    · have hx := fun i (hi : i < 6) u (hu : (tge l[j])[i]? = some u) => h.cells (g := g) rfl (j * 6 + i) u ((fl_get tge tge6 l j i hj hi).trans hu)
      simp only [Addr.add_lit] at hx
      exact ⟨hx 0 (by omega) _ rfl, hx 1 (by omega) _ rfl, hx 2 (by omega) _ rfl, hx 3 (by omega) _ rfl, hx 4 (by omega) _ rfl⟩
    · have := h.cells (g := g) rfl (j * 6 + 5) _ (fl_get tge tge6 l j 5 hj (by omega))
      rw [Addr.add_lit] at this
      simpa [Nat.add_assoc] using this
theorem TOwn.block {w : World} {base : Nat} {v : Value} {l : List Tgt} (h : TOwn w base v l) (hl : l ≠ []) : ∃ b, v.ownBlock = some b ∧ base ≤ b ∧ b < w.heap.size := by
  unfold TOwn at h
  rcases h.2 with ⟨rfl, h0⟩ | ⟨g, cap, cur, rfl, hb, hg, _⟩
  · exact absurd (List.eq_nil_of_length_eq_zero h0) hl
  · exact ⟨g, rfl, hb, row_lt hg⟩
/-- Where a union that is not empty lies. -/
theorem Tgts.block {w : World} {v : Value} {l : List Tgt} (h : Tgts w v l) (hl : l ≠ []) : ∃ b, v.ownBlock = some b ∧ b < w.heap.size := by
  obtain ⟨ao, cap, rfl, _, _, hc⟩ := h
  obtain ⟨b, off, rfl, hb, _⟩ := hc 0 (List.length_pos_iff.2 hl)
  exact ⟨b, rfl, hb⟩
/-- A union is as it was where its block is as it was. -/
theorem Tgts.keep {w w' : World} {v : Value} {l : List Tgt} (h : Tgts w v l) (hs : w.heap.size ≤ w'.heap.size) (hk : ∀ b, v.ownBlock = some b → l ≠ [] → w'.heap[b]? = w.heap[b]?) : Tgts w' v l := by
  obtain ⟨ao, cap, rfl, hc, hn, hcell⟩ := h
  refine ⟨ao, cap, rfl, hc, hn, fun j hj => ?_⟩
  obtain ⟨b, off, rfl, hb, ⟨c0, c1, c2, c3, c4⟩, c5⟩ := hcell j hj
  have e := hk b rfl (fun e => by rw [e] at hj; simp at hj)
  have key : ∀ o, w'.cell? ⟨b, o, none⟩ = w.cell? ⟨b, o, none⟩ := fun o => World.cell?_of_block (w := w) (a := ⟨b, o, none⟩) e
  exact ⟨b, off, rfl, Nat.lt_of_lt_of_le hb hs, ⟨by rw [key]; exact c0, by rw [key]; exact c1, by rw [key]; exact c2, by rw [key]; exact c3, by rw [key]; exact c4⟩, by rw [key]; exact c5⟩
/-- A row of mounts of one's own; the unions lie in blocks that pass P, and not in the row's. -/
def MOwn (w : World) (base : Nat) (P : Nat → Prop) (v : Value) (rs : List (Mnt × Value)) : Prop :=
  w.ownsRow base 55 6 v rs.length (fl mne rs) ∧ ∀ r ∈ rs, Tgts w r.2 r.1.to ∧ (r.1.to ≠ [] → ∃ b, r.2.ownBlock = some b ∧ P b ∧ v.ownBlock ≠ some b)
/-- The same, said of the mounts alone. -/
def MList (w : World) (base : Nat) (P : Nat → Prop) (v : Value) (ms : List Mnt) : Prop := ∃ rs : List (Mnt × Value), rs.map (·.1) = ms ∧ MOwn w base P v rs
theorem MOwn.mnts {w : World} {base : Nat} {P : Nat → Prop} {v : Value} {rs : List (Mnt × Value)} (h : MOwn w base P v rs) : Mnts w v (rs.map (·.1)) := by
  obtain ⟨h, ht⟩ := h
  rcases h.2 with ⟨rfl, h0⟩ | ⟨g, cap, cur, rfl, hb, hg, hnc, hcm, hcs, htk⟩
  · rw [List.eq_nil_of_length_eq_zero h0]; exact mnts_nil w
  · have hl : (rs.map (·.1)).length = rs.length := List.length_map _
    refine ⟨some ⟨g, 0, none⟩, cap, by rw [hl], by rw [hl]; exact hnc, (fun h => nomatch h), fun j hj => ?_⟩
    rw [hl] at hj
    have hx := fun i (hi : i < 6) u (hu : (mne rs[j])[i]? = some u) => h.cells (g := g) rfl (j * 6 + i) u ((fl_get mne mne6 rs j i hj hi).trans hu)
    simp only [Addr.add_lit, Nat.zero_add] at hx
    simp only [List.getElem_map]
    refine ⟨g, 0, rfl, row_lt hg, ?_, rs[j].2, ?_, (ht _ (List.getElem_mem hj)).1⟩
    · simp only [CCells, Nat.zero_add]
      exact ⟨hx 0 (by omega) _ rfl, hx 1 (by omega) _ rfl, hx 2 (by omega) _ rfl, hx 3 (by omega) _ rfl, hx 4 (by omega) _ rfl⟩
    · simp only [Nat.zero_add]
      exact hx 5 (by omega) _ rfl
theorem MList.mnts {w : World} {base : Nat} {P : Nat → Prop} {v : Value} {ms : List Mnt} (h : MList w base P v ms) : Mnts w v ms := by obtain ⟨rs, rfl, h⟩ := h; exact h.mnts
theorem MList.form {w : World} {base : Nat} {P : Nat → Prop} {v : Value} {ms : List Mnt} (h : MList w base P v ms) : ∃ a c, v = .slice a ms.length c := by
  obtain ⟨rs, rfl, h⟩ := h
  obtain ⟨a, c, e⟩ := own_lt h.1
  exact ⟨a, c, by rw [List.length_map]; exact e⟩
/-- The mounts of a slice with the slices of their unions. -/
theorem Mnts.rows {w : World} {v : Value} {ms : List Mnt} (h : Mnts w v ms) : ∃ rs : List (Mnt × Value), rs.map (·.1) = ms ∧ (∀ r ∈ rs, Tgts w r.2 r.1.to) ∧
    ∃ ao cap, v = .slice ao ms.length cap ∧ ms.length ≤ cap ∧ (ao = none → cap = 0) ∧ ∀ a, ao = some a → ∀ j u, (fl mne rs)[j]? = some u → w.cell? (a.add j) = some u ∧ (a.add j).block < w.heap.size := by
  obtain ⟨ao, cap, rfl, hc, hn, hcell⟩ := h
  have key : ∀ j, j < ms.length → ∃ tv, ∀ (h : j < ms.length), ∃ b off, ao = some ⟨b, off, none⟩ ∧ b < w.heap.size ∧ CCells w b (off + j * 6) ms[j].fr ∧ w.cell? ⟨b, off + j * 6 + 5, none⟩ = some tv ∧ Tgts w tv ms[j].to := fun j hj => by
    obtain ⟨b, off, e1, e2, e3, tv, e4, e5⟩ := hcell j hj
    exact ⟨tv, fun _ => ⟨b, off, e1, e2, e3, e4, e5⟩⟩
  obtain ⟨f, hf⟩ := Go.Deep.choose_lt key
  refine ⟨ms.mapIdx fun j m => (m, f j), ?_, ?_, ao, cap, rfl, hc, hn, ?_⟩
  · apply List.ext_getElem
    · simp
    · intro i h1 h2; simp
  · intro r hr
    obtain ⟨i, hi, rfl⟩ := List.mem_iff_getElem.1 hr
    have hi' : i < ms.length := by simpa using hi
    obtain ⟨b, off, e1, e2, e3, e4, e5⟩ := hf i hi' hi'
    simpa using e5
  · rintro a rfl j u hu
    rcases Nat.eq_zero_or_pos ms.length with h0 | h0
    · rw [List.eq_nil_of_length_eq_zero h0] at hu; simp [fl] at hu
    · obtain ⟨b, off, ha, hlt, _⟩ := hf 0 h0 h0
      cases ha
      rw [Addr.add_lit]
      refine ⟨fl_cells mne mne6 w b off _ (fun j hj i u hu => ?_) j u hu, hlt⟩
      have hj' : j < ms.length := by simpa using hj
      obtain ⟨b', off', ha', _, ⟨c0, c1, c2, c3, c4⟩, c5, _⟩ := hf j hj' hj'
      cases ha'
      simp only [List.getElem_mapIdx] at hu
      match i, hu with
      | 0, hu => simp [mne] at hu; subst hu; exact c0
      | 1, hu => simp [mne] at hu; subst hu; exact c1
      | 2, hu => simp [mne] at hu; subst hu; exact c2
      | 3, hu => simp [mne] at hu; subst hu; exact c3
      | 4, hu => simp [mne] at hu; subst hu; exact c4
      | 5, hu => simp [mne] at hu; subst hu; exact c5
      | i + 6, hu => simp [mne] at hu
theorem MOwn.below {w w' : World} {base : Nat} {P : Nat → Prop} {v : Value} {rs : List (Mnt × Value)} (h : MOwn w base P v rs) (hb : Below w.heap.size w w') : MOwn w' base P v rs := by
  refine ⟨?_, fun r hr => ⟨(h.2 r hr).1.below hb, (h.2 r hr).2⟩⟩
  exact h.1.kept (row := none) ⟨hb.os, hb.tape, hb.output, hb.size, fun k hk _ => hb.block k hk⟩ (by cases v.ownBlock <;> simp)
theorem MOwn.weak {w : World} {base base' : Nat} {P P' : Nat → Prop} {v : Value} {rs : List (Mnt × Value)} (h : MOwn w base P v rs) (hb : base' ≤ base) (hp : ∀ b, P b → b < w.heap.size → P' b) : MOwn w base' P' v rs :=
  ⟨h.1.mono hb, fun r hr => ⟨(h.2 r hr).1, fun hn => by
    obtain ⟨b, e1, e2, e3⟩ := (h.2 r hr).2 hn
    obtain ⟨b', e1', hlt⟩ := (h.2 r hr).1.block hn
    rw [e1] at e1'; cases e1'
    exact ⟨b, e1, hp b e2 hlt, e3⟩⟩⟩
/-- Behind a store into a box that is no block of mounts and holds no union. -/
theorem MOwn.box {w : World} {base : Nat} {P : Nat → Prop} {v : Value} {rs : List (Mnt × Value)} (h : MOwn w base P v rs) {p : Nat} {cs : Array Value} {ty : TypeId} {fz : Nat × Nat} (hp : w.heap[p]? = some (.cells cs ty fz)) (hne : ty ≠ 55) (hP : ¬ P p) (o : Nat) (u : Value) : MOwn (w.setCell ⟨p, o, none⟩ u) base P v rs := by
  refine ⟨own_set h.1 hp hne.symm o u, fun r hr => ⟨(h.2 r hr).1.keep (by simp) (fun b hb hn => ?_), (h.2 r hr).2⟩⟩
  obtain ⟨b', e1, e2, e3⟩ := (h.2 r hr).2 hn
  rw [hb] at e1; cases e1
  exact Below.heap_setCell _ _ _ _ (fun e => hP ((show b = p from e) ▸ e2))
end Go.Proofs.Ytganenaaglfdnaa
