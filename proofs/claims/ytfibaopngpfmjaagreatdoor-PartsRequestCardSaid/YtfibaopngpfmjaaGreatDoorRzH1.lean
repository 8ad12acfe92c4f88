/- Clones of a client's calls. Conditions: those that each theorem names. -/
import Derived.Test.YtfibaopngpfmjaaGreatDoorRzD2
import Derived.Test.YtfibaopngpfmjaaGreatDoorRzE3
import Derived.Test.YtfibaopngpfmjaaGreatDoorRzB5
import Derived.Test.YtfibaopngpfmjaaGreatDoorRzD1
import Derived.Test.YtfibaopngpfmjaaGreatDoorRzB6
import Derived.Great.Walk
import Derived.Great.BuildSlice
set_option linter.unusedVariables false
set_option linter.unusedSimpArgs false
set_option maxRecDepth 100000
set_option maxHeartbeats 8000000
namespace Go.Proofs.YtfibaopngpfmjaaGreatDoor
open Go.RowKit Go.Proofs
/-- Qids as values. -/
def qdv (l : List (Int × Int × Int)) : List Value := l.flatMap fun q => [.int .i64 q.1, .int .i64 q.2.1, .int .i64 q.2.2]
theorem qdv_len (l : List (Int × Int × Int)) : (qdv l).length = l.length * 3 := by
  induction l with
  | nil => rfl
  | cons x r ih => simp [qdv] at ih ⊢; omega
theorem qdv_at (l : List (Int × Int × Int)) (j : Nat) (h : j < l.length) : (qdv l)[j * 3]? = some (.int .i64 l[j].1) ∧ (qdv l)[j * 3 + 1]? = some (.int .i64 l[j].2.1) ∧ (qdv l)[j * 3 + 2]? = some (.int .i64 l[j].2.2) := by
  induction l generalizing j with
  | nil => simp at h
  | cons x r ih =>
    have e : qdv (x :: r) = .int .i64 x.1 :: .int .i64 x.2.1 :: .int .i64 x.2.2 :: qdv r := rfl
    rw [e]
    cases j with
    | zero => exact ⟨rfl, rfl, rfl⟩
    | succ j =>
      have h2 := ih j (by simpa using h)
      have e1 : (j + 1) * 3 = j * 3 + 3 := by omega
      rw [e1]
      simpa using h2
theorem qdv_one (l : List (Int × Int × Int)) : ∀ u ∈ qdv l, u.oneCell' = true := by
  intro u hu
  unfold qdv at hu
  rw [List.mem_flatMap] at hu
  obtain ⟨q, _, hq⟩ := hu
  simp only [List.mem_cons, List.not_mem_nil, or_false] at hq
  rcases hq with rfl | rfl | rfl <;> rfl
theorem txv_one (l : List (List UInt8)) : ∀ u ∈ txv l, u.oneCell' = true := by
  intro u hu
  unfold txv at hu
  rw [List.mem_map] at hu
  obtain ⟨t, _, rfl⟩ := hu
  rfl
theorem qds_own {W : World} {B : Nat} {v : Value} {l : List (Int × Int × Int)} (h : W.ownsRow B 44 3 v l.length (qdv l)) : Qds W v l ∧ ∀ ad n c, v = .slice (some ad) n c → B ≤ ad.block := by
  rcases h.2 with ⟨rfl, h0⟩ | ⟨g, cap, cur, rfl, hB, hg, hnc, _, hsz, htk⟩
  · have : l = [] := List.eq_nil_of_length_eq_zero h0
    subst this
    exact ⟨Qds.nil W, fun ad n c e => by cases e⟩
  · refine ⟨⟨_, cap, rfl, hnc, (fun e => by cases e), fun j hj => ⟨g, 0, rfl, row_ltP hg, ?_⟩⟩, fun ad n c e => by cases e; exact hB⟩
    obtain ⟨q0, q1, q2⟩ := qdv_at l j hj
    have hh : ∀ i (u : Value), i < l.length * 3 → (qdv l)[i]? = some u → W.cell? ⟨g, 0 + i, none⟩ = some u := fun i u hi hq => by
      rw [Nat.zero_add, Lib.cell_of_heap hg]
      have h1 : cur.toList[i]? = (qdv l)[i]? := by rw [← htk, List.getElem?_take_of_lt hi]
      rw [hq] at h1
      simpa using h1
    refine ⟨?_, ?_, ?_⟩
    · exact hh _ _ (by omega) q0
    · have := hh _ _ (by omega) q1; rw [← Nat.add_assoc] at this; exact this
    · have := hh _ _ (by omega) q2; rw [← Nat.add_assoc] at this; exact this
theorem Qds.gr2 {g p : Nat} {w w' : World} {v : Value} {l : List (Int × Int × Int)} (h : Qds w v l) (hv : ∀ ad n c, v = .slice (some ad) n c → ad.block ≠ g ∧ ad.block ≠ p) (k : Gr2 g p w w') : Qds w' v l := by
  obtain ⟨ao, cap, e, hc, hn, hcell⟩ := h
  refine ⟨ao, cap, e, hc, hn, fun j hj => ?_⟩
  obtain ⟨b, off, ha, hlt, c0, c1, c2⟩ := hcell j hj
  subst ha
  obtain ⟨h1, h2⟩ := hv _ _ _ e
  have hb := k.2.2 b hlt h1 h2
  refine ⟨b, off, rfl, Nat.lt_of_lt_of_le hlt k.2.1, ?_, ?_, ?_⟩
  · rw [← c0]; simp only [World.cell?]; rw [hb]
  · rw [← c1]; simp only [World.cell?]; rw [hb]
  · rw [← c2]; simp only [World.cell?]; rw [hb]
theorem sclone_any (v : Value) (l : List (List UInt8)) (w : World) (hv : Txs w v l) (hl : l.length ≤ 8796093021952) :
    Calls Tryz.prog 67 #[v] w fun e w' => ∃ v', e = .returned v' ∧ (Txs w' v' l ∧ ∀ ad n k, v' = .slice (some ad) n k → w.heap.size ≤ ad.block) ∧ Below w.heap.size w w' := by
  obtain ⟨i0, hi, hz0, hz1, hz2⟩ := info_parts (P := Tryz.prog) (e := 9) (z := .string ByteArray.empty) (size := 1) (bytes := 16) (by kernel_rfl)
  have hnil := fun (w : World) (a : Option Addr) (n c n' c' : Nat) => Lib.run_eql_slice_nil (P := Tryz.prog) w 32 9 a n c n' c' Tryz.underlying32
  obtain ⟨ao, cap, rfl, hc, hnn, hcell⟩ := hv
  cases ao with
  | none =>
    have h0 : l = [] := List.eq_nil_of_length_eq_zero (by have := hnn rfl; omega)
    subst h0
    have HQ := lh (show Txs w (.slice none 0 0) [] ∧ ∀ ad n k, Value.slice none 0 0 = .slice (some ad) n k → w.heap.size ≤ ad.block from ⟨Txs.nil w, fun ad n k e => by cases e⟩)
    clear hcell hnn hc
    go_enter Tryz.func67, Tryz.ntmps67
    go_wp2_with fail
    go_ret
    exact ⟨_, rfl, HQ.out, Below.refl _ _⟩
  | some ad =>
    have HNW := lh (show ∀ W, Below w.heap.size w W → ∀ a2, some ad = some a2 → ∀ j u, (txv l)[j]? = some u → W.cell? (a2.add j) = some u from by
      intro W hbw a2 ea j u hu
      cases ea
      have hj : j < l.length := by
        have := (List.getElem?_eq_some_iff.1 hu).1
        simpa [txv] using this
      obtain ⟨b, off, ea, hlt, c0⟩ := hcell j hj
      cases ea
      have e2 : u = .string (T l[j]) := by
        have h2 : (txv l)[j]? = some (.string (T l[j])) := by simp [txv, hj]
        rw [h2] at hu
        exact (Option.some.inj hu).symm
      rw [e2, Addr.add_mid]
      exact cell_below hbw hlt c0
)
    clear hcell hnn hc
    go_enter Tryz.func67, Tryz.ntmps67
    go_wp2_with (at_builtin; refine wpList_append_any _ rfl _ _ 32 rfl w.heap.size 9 i0 (.string ByteArray.empty) 1 16 Tryz.underlying32 hi hz0 hz1 hz2 rfl (by decide) (.slice (some ⟨w.heap.size, 0, none⟩) 0 0) 0 [] rfl ?c0 (some ad) l.length cap (txv l) rfl ?c1 ?c2 ?c3 ?c4 ?c5 ?c6 ?c7 ?_)
    case c0 => exact ⟨rfl, .inr ⟨w.heap.size, 0, #[], rfl, Nat.le_refl _, heap_alloc_new w _, Nat.le_refl _, by unfold maxLen; omega, rfl, rfl⟩⟩
    case c1 => intro h; cases h
    case c2 => simp [txv]
    case c3 =>
      intro a2 ea j u hu
      exact HNW.out _ (alloc_below w _) a2 ea j u hu
    case c4 => exact txv_one l
    case c5 => unfold maxLen; omega
    case c6 => omega
    case c7 => have := (alloc_below w (.cells #[] 9)).size; omega
    intro v2 w2 hown2 hgrow2 _
    have HQ := lh (txs_own hown2)
    have HB := lh (show Below w.heap.size w w2 from (alloc_below w (.cells #[] 9)).trans ⟨hgrow2.os, hgrow2.tape, hgrow2.output, hgrow2.size, fun i hi => hgrow2.block i (by have := (alloc_below w (.cells #[] 9)).size; omega) (fun e => by have : i = w.heap.size := Option.some.inj e; omega)⟩)
    clear hown2 hgrow2
    go_wp2_with fail
    go_ret
    exact ⟨_, rfl, HQ.out, HB.out⟩
theorem qclone_any (v : Value) (l : List (Int × Int × Int)) (w : World) (hv : Qds w v l) (hl : l.length ≤ 5864062014634) :
    Calls Tryz.prog 68 #[v] w fun e w' => ∃ v', e = .returned v' ∧ (Qds w' v' l ∧ ∀ ad n k, v' = .slice (some ad) n k → w.heap.size ≤ ad.block) ∧ Below w.heap.size w w' := by
  obtain ⟨i0, hi, hz0, hz1, hz2⟩ := info_parts (P := Tryz.prog) (e := 44) (z := .agg #[.int .i64 0, .int .i64 0, .int .i64 0]) (size := 3) (bytes := 24) (by kernel_rfl)
  have hnil := fun (w : World) (a : Option Addr) (n c n' c' : Nat) => Lib.run_eql_slice_nil (P := Tryz.prog) w 42 44 a n c n' c' Tryz.underlying42
  obtain ⟨ao, cap, rfl, hc, hnn, hcell⟩ := hv
  cases ao with
  | none =>
    have h0 : l = [] := List.eq_nil_of_length_eq_zero (by have := hnn rfl; omega)
    subst h0
    have HQ := lh (show Qds w (.slice none 0 0) [] ∧ ∀ ad n k, Value.slice none 0 0 = .slice (some ad) n k → w.heap.size ≤ ad.block from ⟨Qds.nil w, fun ad n k e => by cases e⟩)
    clear hcell hnn hc
    go_enter Tryz.func68, Tryz.ntmps68
    go_wp2_with fail
    go_ret
    exact ⟨_, rfl, HQ.out, Below.refl _ _⟩
  | some ad =>
    have HNW := lh (show ∀ W, Below w.heap.size w W → ∀ a2, some ad = some a2 → ∀ j u, (qdv l)[j]? = some u → W.cell? (a2.add j) = some u from by
      intro W hbw a2 ea j u hu
      cases ea
      have hj : j < l.length * 3 := by
        have := (List.getElem?_eq_some_iff.1 hu).1
        rwa [qdv_len] at this
      have hj3 : j / 3 < l.length := by omega
      obtain ⟨b, off, ea, hlt, c0, c1, c2⟩ := hcell (j / 3) hj3
      cases ea
      obtain ⟨q0, q1, q2⟩ := qdv_at l (j / 3) hj3
      have hm : j % 3 = 0 ∨ j % 3 = 1 ∨ j % 3 = 2 := by omega
      rcases hm with hm | hm | hm
      · have e : j = j / 3 * 3 := by omega
        have hu0 : some (Value.int .i64 l[j / 3].1) = some u := by rw [← q0, ← e]; exact hu
        cases hu0
        rw [Addr.add_mid]
        have h2 := cell_below hbw hlt c0
        rw [show off + j / 3 * 3 = off + j from by omega] at h2
        exact h2
      · have e : j = j / 3 * 3 + 1 := by omega
        have hu0 : some (Value.int .i64 l[j / 3].2.1) = some u := by rw [← q1, ← e]; exact hu
        cases hu0
        rw [Addr.add_mid]
        have h2 := cell_below hbw hlt c1
        rw [show off + j / 3 * 3 + 1 = off + j from by omega] at h2
        exact h2
      · have e : j = j / 3 * 3 + 2 := by omega
        have hu0 : some (Value.int .i64 l[j / 3].2.2) = some u := by rw [← q2, ← e]; exact hu
        cases hu0
        rw [Addr.add_mid]
        have h2 := cell_below hbw hlt c2
        rw [show off + j / 3 * 3 + 2 = off + j from by omega] at h2
        exact h2
)
    clear hcell hnn hc
    go_enter Tryz.func68, Tryz.ntmps68
    go_wp2_with (at_builtin; refine wpList_append_any _ rfl _ _ 42 rfl w.heap.size 44 i0 (.agg #[.int .i64 0, .int .i64 0, .int .i64 0]) 3 24 Tryz.underlying42 hi hz0 hz1 hz2 rfl (by decide) (.slice (some ⟨w.heap.size, 0, none⟩) 0 0) 0 [] rfl ?c0 (some ad) l.length cap (qdv l) rfl ?c1 ?c2 ?c3 ?c4 ?c5 ?c6 ?c7 ?_)
    case c0 => exact ⟨rfl, .inr ⟨w.heap.size, 0, #[], rfl, Nat.le_refl _, heap_alloc_new w _, Nat.le_refl _, by unfold maxLen; omega, rfl, rfl⟩⟩
    case c1 => intro h; cases h
    case c2 => rw [qdv_len]
    case c3 =>
      intro a2 ea j u hu
      exact HNW.out _ (alloc_below w _) a2 ea j u hu
    case c4 => exact qdv_one l
    case c5 => unfold maxLen; omega
    case c6 => omega
    case c7 => have := (alloc_below w (.cells #[] 44)).size; omega
    intro v2 w2 hown2 hgrow2 _
    have HQ := lh (qds_own hown2)
    have HB := lh (show Below w.heap.size w w2 from (alloc_below w (.cells #[] 44)).trans ⟨hgrow2.os, hgrow2.tape, hgrow2.output, hgrow2.size, fun i hi => hgrow2.block i (by have := (alloc_below w (.cells #[] 44)).size; omega) (fun e => by have : i = w.heap.size := Option.some.inj e; omega)⟩)
    clear hown2 hgrow2
    go_wp2_with fail
    go_ret
    exact ⟨_, rfl, HQ.out, HB.out⟩
/-- A slice of numbers in memory. -/
def Its (w : World) (v : Value) (l : List Int) : Prop :=
  ∃ ao cap, v = .slice ao l.length cap ∧ l.length ≤ cap ∧ (ao = none → cap = 0) ∧ ∀ j (h : j < l.length), ∃ b off, ao = some ⟨b, off, none⟩ ∧ b < w.heap.size ∧ w.cell? ⟨b, off + j, none⟩ = some (.int .i64 l[j])
theorem Its.below {w w' : World} {v : Value} {l : List Int} (h : Its w v l) (hb : Below w.heap.size w w') : Its w' v l := by
  obtain ⟨ao, cap, hv, hc, hn, hcell⟩ := h
  refine ⟨ao, cap, hv, hc, hn, fun j h => ?_⟩
  obtain ⟨b, off, ha, hlt, c0⟩ := hcell j h
  exact ⟨b, off, ha, Nat.lt_of_lt_of_le hlt hb.size, cell_below hb hlt c0⟩
theorem Its.form {w : World} {v : Value} {l : List Int} (h : Its w v l) : ∃ ao n c, v = .slice ao n c := by obtain ⟨a, c, e, _⟩ := h; exact ⟨_, _, _, e⟩
theorem Its.nil (w : World) : Its w (.slice none 0 0) [] := ⟨none, 0, rfl, Nat.le_refl _, fun _ => rfl, fun j h => absurd h (by simp)⟩
def itv (l : List Int) : List Value := l.map (Value.int .i64)
theorem itv_one (l : List Int) : ∀ u ∈ itv l, u.oneCell' = true := by
  intro u hu
  unfold itv at hu
  rw [List.mem_map] at hu
  obtain ⟨t, _, rfl⟩ := hu
  rfl
theorem its_own {W : World} {B : Nat} {v : Value} {l : List Int} (h : W.ownsRow B 3 1 v l.length (itv l)) : Its W v l ∧ ∀ ad n c, v = .slice (some ad) n c → B ≤ ad.block := by
  rcases h.2 with ⟨rfl, h0⟩ | ⟨g, cap, cur, rfl, hB, hg, hnc, _, hsz, htk⟩
  · have : l = [] := List.eq_nil_of_length_eq_zero h0
    subst this
    exact ⟨Its.nil W, fun ad n c e => by cases e⟩
  · refine ⟨⟨_, cap, rfl, hnc, (fun e => by cases e), fun j hj => ⟨g, 0, rfl, row_ltP hg, ?_⟩⟩, fun ad n c e => by cases e; exact hB⟩
    rw [Nat.zero_add, Lib.cell_of_heap hg]
    have h1 : cur.toList[j]? = (itv l)[j]? := by rw [← htk, List.getElem?_take_of_lt (by omega)]
    have h2 : (itv l)[j]? = some (.int .i64 l[j]) := by simp [itv, hj]
    rw [h2] at h1
    simpa using h1
theorem iclone_any (v : Value) (l : List Int) (w : World) (hv : Its w v l) (hl : l.length ≤ 2000000) :
    Calls Tryz.prog 64 #[v] w fun e w' => ∃ v', e = .returned v' ∧ (Its w' v' l ∧ ∀ ad n k, v' = .slice (some ad) n k → w.heap.size ≤ ad.block) ∧ Below w.heap.size w w' := by
  obtain ⟨i0, hi, hz0, hz1, hz2⟩ := info_parts (P := Tryz.prog) (e := 3) (z := .int .i64 0) (size := 1) (bytes := 8) (by kernel_rfl)
  have hnil := fun (w : World) (a : Option Addr) (n c n' c' : Nat) => Lib.run_eql_slice_nil (P := Tryz.prog) w 38 3 a n c n' c' Tryz.underlying38
  obtain ⟨ao, cap, rfl, hc, hnn, hcell⟩ := hv
  cases ao with
  | none =>
    have h0 : l = [] := List.eq_nil_of_length_eq_zero (by have := hnn rfl; omega)
    subst h0
    have HQ := lh (show Its w (.slice none 0 0) [] ∧ ∀ ad n k, Value.slice none 0 0 = .slice (some ad) n k → w.heap.size ≤ ad.block from ⟨Its.nil w, fun ad n k e => by cases e⟩)
    clear hcell hnn hc
    go_enter Tryz.func64, Tryz.ntmps64
    go_wp2_with fail
    go_ret
    exact ⟨_, rfl, HQ.out, Below.refl _ _⟩
  | some ad =>
    have HNW := lh (show ∀ W, Below w.heap.size w W → ∀ a2, some ad = some a2 → ∀ j u, (itv l)[j]? = some u → W.cell? (a2.add j) = some u from by
      intro W hbw a2 ea j u hu
      cases ea
      have hj : j < l.length := by
        have := (List.getElem?_eq_some_iff.1 hu).1
        simpa [itv] using this
      obtain ⟨b, off, ea, hlt, c0⟩ := hcell j hj
      cases ea
      have e2 : u = .int .i64 l[j] := by
        have h2 : (itv l)[j]? = some (.int .i64 l[j]) := by simp [itv, hj]
        rw [h2] at hu
        exact (Option.some.inj hu).symm
      rw [e2, Addr.add_mid]
      exact cell_below hbw hlt c0
)
    clear hcell hnn hc
    go_enter Tryz.func64, Tryz.ntmps64
    go_wp2_with (at_builtin; refine wpList_append_any _ rfl _ _ 38 rfl w.heap.size 3 i0 (.int .i64 0) 1 8 Tryz.underlying38 hi hz0 hz1 hz2 rfl (by decide) (.slice (some ⟨w.heap.size, 0, none⟩) 0 0) 0 [] rfl ?c0 (some ad) l.length cap (itv l) rfl ?c1 ?c2 ?c3 ?c4 ?c5 ?c6 ?c7 ?_)
    case c0 => exact ⟨rfl, .inr ⟨w.heap.size, 0, #[], rfl, Nat.le_refl _, heap_alloc_new w _, Nat.le_refl _, by unfold maxLen; omega, rfl, rfl⟩⟩
    case c1 => intro h; cases h
    case c2 => simp [itv]
    case c3 =>
      intro a2 ea j u hu
      exact HNW.out _ (alloc_below w _) a2 ea j u hu
    case c4 => exact itv_one l
    case c5 => unfold maxLen; omega
    case c6 => omega
    case c7 => have := (alloc_below w (.cells #[] 3)).size; omega
    intro v2 w2 hown2 hgrow2 _
    have HQ := lh (its_own hown2)
    have HB := lh (show Below w.heap.size w w2 from (alloc_below w (.cells #[] 3)).trans ⟨hgrow2.os, hgrow2.tape, hgrow2.output, hgrow2.size, fun i hi => hgrow2.block i (by have := (alloc_below w (.cells #[] 3)).size; omega) (fun e => by have : i = w.heap.size := Option.some.inj e; omega)⟩)
    clear hown2 hgrow2
    go_wp2_with fail
    go_ret
    exact ⟨_, rfl, HQ.out, HB.out⟩
theorem mclone_any (m : Mg) (ns : List (List UInt8)) (qs : List (Int × Int × Int)) (w : World) (hm : MgIn w m ns qs) (hn : ns.length ≤ 8796093021952) (hq : qs.length ≤ 5864062014634) :
    Calls Tryz.prog 27 #[.agg m.cs.toArray] w fun e w' => ∃ m' : Mg, e = .returned (.agg m'.cs.toArray) ∧ (m'.bare = m.bare ∧ MgIn w' m' ns qs) ∧ Below w.heap.size w w' := by
  have h1 := heap_alloc_new w (mgobj m)
  have h2 := heap_alloc_new (w.alloc (mgobj m)) (mgobj mg0)
  rw [show (w.alloc (mgobj m)).heap.size = w.heap.size + 1 from by simp] at h2
  have HB := lh (bnext (alloc_below w (mgobj m)) (alloc_below _ (mgobj mg0)))
  have H1 := lh ((Lib.alloc_old _ (mgobj mg0) _ (by simp)).trans h1)
  have H2 := lh h2
  clear h1 h2
  have HS := lh (fun (W : World) (h : Below w.heap.size w W) => sclone_any m.names ns W (hm.1.below h) hn)
  have HQ := lh (fun (W : World) (h : Below w.heap.size w W) => qclone_any m.qids qs W (hm.2.1.below h) hq)
  obtain ⟨⟨an, nn, cn, hnm⟩, ⟨aq, nq, cq, hqm⟩⟩ := hm.ok
  have HK1 := lh (show ∀ (W : World) (v : Value), W.heap[w.heap.size]? = some (mgobj m) → (W.cell? ⟨w.heap.size, 10, none⟩ = some (.slice an nn cn) ∧ W.frozen? ⟨w.heap.size, 10, none⟩ = false) ∧ (W.setCell ⟨w.heap.size, 10, none⟩ v).heap[w.heap.size]? = some (mgobj { m with names := v }) from fun W v h => ⟨⟨by rw [Lib.cell_of_heap h, ← hnm]; rfl, Lib.frozen_of_heap h _⟩, mg_set (m' := { m with names := v }) h 10 v rfl⟩)
  have HK2 := lh (show ∀ (W : World) (v u : Value), W.heap[w.heap.size]? = some (mgobj { m with names := v }) → (W.cell? ⟨w.heap.size, 11, none⟩ = some (.slice aq nq cq) ∧ W.frozen? ⟨w.heap.size, 11, none⟩ = false) ∧ (W.setCell ⟨w.heap.size, 11, none⟩ u).heap[w.heap.size]? = some (mgobj { m with names := v, qids := u }) from fun W v u h => ⟨⟨by rw [Lib.cell_of_heap h, ← hqm]; rfl, Lib.frozen_of_heap h _⟩, mg_set (m' := { m with names := v, qids := u }) h 11 u rfl⟩)
  have HU := lh (Tryz.underlying48)
  have HSZ := lh (fun x : Mg => mg_size x)
  have HAL := lh (fun (x : Mg) (h : x.ok) => mg_all x h)
  have HRS := lh hm.2.2
  rw [hnm] at HS
  rw [hqm] at HQ
  clear hm hn hq hnm hqm
  unfold mgobj at *
  generalize hA1 : m.cs.toArray = A1 at *
  clear hA1
  go_enter Tryz.func27, Tryz.ntmps27
  go_upto_region 1 with fail
  generalize hw1 : World.alloc _ _ = w1
  have HB1 := lh (show Below w.heap.size w w1 from by rw [← hw1]; exact HB.out)
  have K1 := lh (show w1.heap[w.heap.size]? = some (.cells A1 48) from by rw [← hw1]; exact H1.out)
  have K2 := lh (show w1.heap[w.heap.size + 1]? = some (.cells mg0.cs.toArray 48) from by rw [← hw1]; exact H2.out)
  clear H1 H2 HB hw1
  have c0 := (HK1.out w1 (.slice none 0 0) K1.out).1.1
  have hb := HB1.out
  go_wp2_with fail
  (with_reducible refine (HS.out _ hb).mono ?_); rintro e w2 ⟨v, rfl, ⟨hv, hvb⟩, b2⟩
  have hlt1 : w.heap.size + 1 < w1.heap.size := row_ltP K2.out
  have HB2 := lh (bnext HB1.out b2)
  have L1 := lh ((b2.block _ (row_ltP K1.out)).trans K1.out)
  have L2 := lh ((b2.block _ (row_ltP K2.out)).trans K2.out)
  have HV := lh hv
  have HVB := lh (show ∀ ad n k, v = .slice (some ad) n k → w.heap.size + 1 < ad.block from fun ad n k e => by have := hvb ad n k e; omega)
  obtain ⟨av, nv, cv, rfl⟩ := hv.form
  clear b2 c0 hb hv hvb K1 K2 HB1
  obtain ⟨⟨c0, f0⟩, k0⟩ := HK1.out w2 (.slice av nv cv) L1.out
  have M1 := lh k0
  have hg3 := grown_setG (below_grownBy (Below.refl _ w2) (some w.heap.size)) 10 (.slice av nv cv)
  have M2 := lh ((hg3.block _ (row_ltP L2.out) (fun e => by have := Option.some.inj e; omega)).trans L2.out)
  have HB3 := lh (HB2.out.setCell (p := ⟨w.heap.size, 10, none⟩) (Nat.le_refl _) (.slice av nv cv))
  have HV3 := lh (Txs.gr2 (g := w.heap.size) (p := w.heap.size) HV.out (fun ad n k e => by have := HVB.out ad n k e; omega) (Gr2.of_g hg3))
  clear k0 hg3 L1 L2 HB2 HV HK1 HS
  go_upto_region 2 with fail
  generalize World.setCell w2 ⟨w.heap.size, 10, none⟩ (.slice av nv cv) = w3 at *
  clear c0 f0
  have c1 := (HK2.out w3 (.slice av nv cv) (.slice none 0 0) M1.out).1.1
  have hb := HB3.out
  go_wp2_with fail
  (with_reducible refine (HQ.out _ hb).mono ?_); rintro e w4 ⟨u, rfl, ⟨hu, hub⟩, b4⟩
  have hlt3 : w.heap.size + 1 < w3.heap.size := row_ltP M2.out
  have HB4 := lh (bnext HB3.out b4)
  have N1 := lh ((b4.block _ (row_ltP M1.out)).trans M1.out)
  have N2 := lh ((b4.block _ (row_ltP M2.out)).trans M2.out)
  have HV4 := lh (HV3.out.below b4)
  have HW := lh hu
  have HWB := lh (show ∀ ad n k, u = .slice (some ad) n k → w.heap.size + 1 < ad.block from fun ad n k e => by have := hub ad n k e; omega)
  obtain ⟨au, nu, cu, rfl⟩ := hu.form
  clear b4 c1 hb hu hub M1 M2 HB3 HV3
  obtain ⟨⟨c1, f1⟩, k1⟩ := HK2.out w4 (.slice av nv cv) (.slice au nu cu) N1.out
  have O1 := lh k1
  have hg5 := grown_setG (below_grownBy (Below.refl _ w4) (some w.heap.size)) 11 (.slice au nu cu)
  have O2 := lh ((hg5.block _ (row_ltP N2.out) (fun e => by have := Option.some.inj e; omega)).trans N2.out)
  have HB5 := lh (HB4.out.setCell (p := ⟨w.heap.size, 11, none⟩) (Nat.le_refl _) (.slice au nu cu))
  have HV5 := lh (Txs.gr2 (g := w.heap.size) (p := w.heap.size) HV4.out (fun ad n k e => by have := HVB.out ad n k e; omega) (Gr2.of_g hg5))
  have HW5 := lh (HW.out.gr2 (g := w.heap.size) (p := w.heap.size) (fun ad n k e => by have := HWB.out ad n k e; omega) (Gr2.of_g hg5))
  clear k1 hg5 N1 N2 HB4 HV4 HW HK2 HQ
  go_upto_region 3 with fail
  generalize World.setCell w4 ⟨w.heap.size, 11, none⟩ (.slice au nu cu) = w5 at *
  clear c1 f1
  have HSZ2 := lh (HSZ.out { m with names := .slice av nv cv, qids := .slice au nu cu })
  have HAL2 := lh (HAL.out { m with names := .slice av nv cv, qids := .slice au nu cu } ⟨⟨_, _, _, rfl⟩, ⟨_, _, _, rfl⟩⟩)
  have HSY : RowKit.Hid (mg0.cs.toArray.size = ({ m with names := .slice av nv cv, qids := .slice au nu cu } : Mg).cs.toArray.size) := lh rfl
  have HFI := lh (fun (W' : World) (hg : w5.grownBy W' (some (w.heap.size + 1))) (hb : Below w.heap.size w W') => (⟨{ m with names := .slice av nv cv, qids := .slice au nu cu }, rfl, ⟨rfl, Txs.gr2 (g := w.heap.size + 1) (p := w.heap.size + 1) HV5.out (fun ad n k e => by have := HVB.out ad n k e; omega) (Gr2.of_g hg), HW5.out.gr2 (g := w.heap.size + 1) (p := w.heap.size + 1) (fun ad n k e => by have := HWB.out ad n k e; omega) (Gr2.of_g hg), HRS.out⟩, hb⟩ : ∃ m' : Mg, Ending.returned (.agg ({ m with names := .slice av nv cv, qids := .slice au nu cu } : Mg).cs.toArray) = .returned (.agg m'.cs.toArray) ∧ (m'.bare = m.bare ∧ MgIn W' m' ns qs) ∧ Below w.heap.size w W'))
  generalize ({ m with names := .slice av nv cv, qids := .slice au nu cu } : Mg).cs.toArray = AX at *
  clear HV5 HW5 HVB HWB HSZ HAL
  generalize mg0.cs.toArray = A3 at *
  go_wp2_with (first | refine wpList_load_row rfl 48 _ rfl w.heap.size rfl 48 AX (0, 0) _ O1.out HU.out rfl HSZ2.out ?_ | refine wpList_store_row rfl 48 _ _ rfl (w.heap.size + 1) AX rfl rfl 48 A3 O2.out HSZ2.out HSY.out HAL2.out ?_)
  exact bodyPost_ret (v := .agg AX) (results_cell_row Tryz.results27 _ _ (w.heap.size + 1) 48 AX (0, 0) _ rfl (heap_setRow_same O2.out) HU.out rfl HSZ2.out) rfl (HFI.out _ (grown_setRow _) (below_setRow HB5.out (by omega) _))
section
variable {P : Program}
theorem step_build {ops : Array Oper} {o : Oper} {a : Act} {w : World} {K : Act → World → Prop} {Q : Exit → Act → World → Prop} {E : Prop} (hgd : o.guard = none) (t : TypeId) (parts : Array (Nat × Operand)) (ho : o.op = .build t parts) (cs : Array Value)
    (hb : P.built t (parts.map fun (i, x) => (i, a.eval x)).toList = some cs) (hK : K (a.put o.dst (.agg cs)) w) : if Region.wanted o (yielded ops a.tmps) = true then Oper.wp P o a w K Q else E := by
  have hw : Region.wanted o (yielded ops a.tmps) = true := by simp [Region.wanted, hgd]
  rw [if_pos hw]
  exact wp_build t parts ho (by rw [hb]; rfl) (by rw [hb]; exact hK)
theorem step_buildSlice {ops : Array Oper} {o : Oper} {a : Act} {w : World} {K : Act → World → Prop} {Q : Exit → Act → World → Prop} {E : Prop} (hgd : o.guard = none) (t e : TypeId) (len : Nat) (parts : Array (Nat × Operand)) (ho : o.op = .buildSlice t len parts)
    (hu : P.underlying t = some (.slice e)) (cells : Array Value)
    (hf : P.builtSlice e len (parts.map fun (i, x) => (i, a.eval x)).toList = some cells)
    (hK : K (a.put o.dst (.slice (some ⟨w.heap.size, 0, none⟩) len len)) (w.alloc (.cells cells e))) : if Region.wanted o (yielded ops a.tmps) = true then Oper.wp P o a w K Q else E := by
  have hw : Region.wanted o (yielded ops a.tmps) = true := by simp [Region.wanted, hgd]
  rw [if_pos hw]
  unfold Program.builtSlice at hf
  cases hie : P.info? e with
  | none => simp [hie] at hf
  | some ie =>
    simp only [hie] at hf
    cases hz : ie.zero with
    | none => simp [hz] at hf
    | some z =>
      simp only [hz] at hf
      by_cases hc : len * ie.size > 2 ^ 24 ∨ len * ie.size = 0
      · simp [hc] at hf
      · rw [if_neg hc] at hf
        exact Go.wp_buildSlice t e len parts ho cells ie z hu hie hz (fun h' => hc (Or.inl h')) (fun h' => hc (Or.inr h')) hf hK
end
/-- A client but for its lists. -/
structure Cln where
  up : Bool
  ms : Int
  ss : List UInt8
  pt : List UInt8
abbrev Cln.cs (c : Cln) (fv cv : Value) : Array Value := #[.bool c.up, .int .i64 c.ms, .string (T c.ss), fv, cv, .string (T c.pt)]
abbrev cln0 : Array Value := #[.bool false, .int .i64 0, .string (T []), .slice none 0 0, .slice none 0 0, .string (T [])]
/-- The state of own: the copy of the client, the place of the result. -/
def OwSt (w W : World) (c : Cln) (fv cv : Value) : Prop :=
  W.heap[w.heap.size]? = some (.cells (c.cs fv cv) 41 (0, 0)) ∧ W.heap[w.heap.size + 1]? = some (.cells cln0 41 (0, 0)) ∧ Below w.heap.size w W
theorem OwSt.next {w W W' : World} {c : Cln} {fv cv : Value} (h : OwSt w W c fv cv) (hb : Below W.heap.size W W') : OwSt w W' c fv cv :=
  ⟨(hb.block _ (row_ltP h.1)).trans h.1, (hb.block _ (row_ltP h.2.1)).trans h.2.1, bnext h.2.2 hb⟩
theorem OwSt.own {w W W' : World} {c : Cln} {fv cv v : Value} {n : Nat} {xs : List Value} (h : OwSt w W c fv cv) (ho : W.ownsRow w.heap.size 82 40 v n xs) (hg : W.grownBy W' v.ownBlock) : OwSt w W' c fv cv :=
  ⟨(hg.block _ (row_ltP h.1) (fun e => own_neP ho h.1 (by decide) e.symm)).trans h.1, (hg.block _ (row_ltP h.2.1) (fun e => own_neP ho h.2.1 (by decide) e.symm)).trans h.2.1,
   h.2.2.trans ⟨hg.os, hg.tape, hg.output, hg.size, fun i hi => hg.block i (by have := h.2.2.size; omega) (fun e => by have := (ho.lt i e.symm).1; omega)⟩⟩
theorem rng_call {W : World} {g : Nat} {c : Cll} {t : TypeId} {fr : Nat × Nat} (h : W.heap[g]? = some (.cells c.cs.toArray t fr)) : W.rangeAt g 0 c.m.cs ∧ W.cell? ⟨g, 39, none⟩ = some (.int .i64 c.fl) := by
  refine ⟨fun j v hv => ?_, by rw [Lib.cell_of_heap h]; rfl⟩
  rw [Lib.cell_of_heap h]
  have hj : j < c.m.cs.length := (List.getElem?_eq_some_iff.1 hv).1
  have e : c.cs[j]? = c.m.cs[j]? := List.getElem?_append_left hj
  simpa [e] using hv
theorem call_all (c : Cll) (h : c.m.ok) : c.cs.toArray.all (·.oneCell') = true := all_oneCell_toArray (by
  intro u hu
  rcases List.mem_append.1 hu with h1 | h1
  · exact c.m.one h u h1
  · simp only [List.mem_singleton] at h1; subst h1; rfl)
theorem Clls.mgin {w : World} {v : Value} {l : List Cll} (h : Clls w v l) (j : Nat) (hj : j < l.length) : MgIn w l[j].m l[j].ns l[j].qs := by
  obtain ⟨ao, cap, e, _, _, hcell⟩ := h
  obtain ⟨b, off, _, _, _, hm⟩ := hcell j hj
  exact hm
theorem own_any (c : Cln) (fv cv : Value) (fl : List Int) (l : List Cll) (w : World) (hf : Its w fv fl) (hc : Clls w cv l) (hfl : fl.length ≤ 2000000) (hl : l.length ≤ 1000) (hq : ∀ x ∈ l, x.ns.length ≤ 8796093021952 ∧ x.qs.length ≤ 5864062014634) :
    Calls Tryz.prog 24 #[.agg (c.cs fv cv)] w fun e w' => ∃ af nf cf v xs, e = .returned (.agg (c.cs (.slice af nf cf) v)) ∧ w'.ownsRow w.heap.size 82 40 v l.length xs ∧ Below w.heap.size w w' := by
  obtain ⟨i0, hi, hz0, hz1, hz2⟩ := info_parts (P := Tryz.prog) (e := 82) (z := .agg (mg0.cs ++ [Value.int .i64 0]).toArray) (size := 40) (bytes := 432) (by kernel_rfl)
  have HCI := lh (fun (W : World) (h : Below w.heap.size w W) => iclone_any fv fl W (hf.below h) hfl)
  have HCL := lh (fun (j : Nat) (hj : j < l.length) (W : World) (h : Below w.heap.size w W) => mclone_any l[j].m l[j].ns l[j].qs W ((hc.below h).mgin j hj) (hq _ (List.getElem_mem hj)).1 (hq _ (List.getElem_mem hj)).2)
  have HOK := lh (fun (j : Nat) (hj : j < l.length) => (hc.mgin j hj).ok)
  have h1 := (Lib.alloc_old (w.alloc (.cells (c.cs fv cv) 41)) (.cells cln0 41) _ (by simp)).trans (heap_alloc_new w (.cells (c.cs fv cv) 41))
  have h2 := heap_alloc_new (w.alloc (.cells (c.cs fv cv) 41)) (.cells cln0 41)
  rw [show (w.alloc (.cells (c.cs fv cv) 41)).heap.size = w.heap.size + 1 from by simp] at h2
  have HS0 := lh (show OwSt w ((w.alloc (.cells (c.cs fv cv) 41)).alloc (.cells cln0 41)) c fv cv from ⟨h1, h2, bnext (alloc_below w _) (alloc_below _ _)⟩)
  have HCE := lh (fun (W : World) (h : Below w.heap.size w W) => hc.below h)
  obtain ⟨af, nf, cf, rfl⟩ := hf.form
  obtain ⟨ao, cap, rfl, hcp, hnn, _⟩ := hc
  have HBU := lh (show ∀ (x : Mg) (f : Int), Tryz.prog.built 82 [(0, .agg x.cs.toArray), (1, .int .i64 f)] = some (x.cs ++ [Value.int .i64 f]).toArray from fun x f => by kernel_rfl)
  have HBS := lh (show ∀ (x : Mg) (f : Int), Tryz.prog.builtSlice 82 1 [(0, .agg (x.cs ++ [Value.int .i64 f]).toArray)] = some (x.cs ++ [Value.int .i64 f]).toArray from fun x f => by kernel_rfl)
  have HUC := lh (Tryz.underlying82)
  have HUM := lh (Tryz.underlying48)
  have HSC := lh (fun c : Cll => call_size2 c)
  have HSM : RowKit.Hid (∀ x : Mg, (Tryz.prog.info? 48).map (·.size) = some x.cs.length) := lh (fun x => by show _ = some 39; kernel_rfl)
  clear h1 h2 hf hfl hq hnn
  unfold Cln.cs cln0 at *
  go_enter Tryz.func24, Tryz.ntmps24
  go_upto_region 1 with fail
  generalize World.alloc _ _ = w1 at *
  obtain ⟨c0, c1, c2, c3, c4, c5⟩ := six_cells HS0.out.1
  have hsz1 := HS0.out.2.2.size
  go_wp2_with (at_make; refine wpList_make_own _ rfl _ _ 39 rfl w.heap.size 82 i0 (.agg (mg0.cs ++ [Value.int .i64 0]).toArray) 40 Tryz.underlying39 hi hz0 hz1 _ _ _ l.length rfl rfl rfl ?b1 ?b2 ?b3 ?_)
  case b1 => first | (rw [hz2]; omega) | omega
  case b2 => first | (rw [hz2]; omega) | (unfold maxLen; omega) | omega
  try (case b3 => omega)
  intro w2 hown2 hg2
  have b2 := below_of_none hg2
  have HS2 := lh (HS0.out.next b2)
  have HO2 := lh hown2
  clear hown2 hg2 b2 HS0 c0 c1 c2 c3 c4 c5
  obtain ⟨c0, c1, c2, c3, c4, c5⟩ := six_cells HS2.out.1
  go_wp2_with fail
  go_loopg [3, 13] l.length (fun k o i W => ∃ j : Nat, j ≤ l.length ∧ i = .int .i64 (j : Int) ∧ (OwSt w W c (.slice af nf cf) (.slice ao l.length cap) ∧ ∃ xs, W.ownsRow w.heap.size 82 40 o j xs) ∧ k = l.length - j)
  case atStart => exact ⟨0, by omega, rfl, ⟨HS2.out, ⟨_, HO2.out⟩⟩, rfl⟩
  case round =>
    obtain ⟨j, hj, rfl, ⟨hst, ⟨xs, hown⟩⟩, hk⟩ := hrel
    have HS3 := lh hst
    have HO3 := lh hown
    have HK := lh hk
    clear hst hown hk HS2 HO2 c0 c1 c2 c3 c4 c5
    by_cases hlt : j < l.length
    · have hki : (j : Int) < l.length := by omega
      obtain ⟨ao2, cap2, e2, _, _, hcell⟩ := HCE.out _ HS3.out.2.2
      cases e2
      obtain ⟨bk, off, rfl, hbl, cc, _⟩ := hcell j hlt
      have hr : wr.rangeAt bk (off + j * 40) l[j].cs := cc
      have HAL := lh (call_all l[j] (HOK.out j hlt))
      have HSJ := lh (HSC.out l[j])
      have HSZ : RowKit.Hid ((Tryz.prog.info? 82).map (·.size) = some l[j].cs.toArray.size) := lh (HSC.out l[j])
      have HSYZ : RowKit.Hid ((mg0.cs ++ [Value.int .i64 0]).toArray.size = l[j].cs.toArray.size) := lh rfl
      have HRC := lh (fun (W : World) (g : Nat) (h : W.heap[g]? = some (.cells l[j].cs.toArray 82 (0, 0))) => show W.rangeAt g 0 l[j].m.cs ∧ W.cell? ⟨g, 39, none⟩ = some (.int .i64 l[j].fl) from rng_call h)
      have HCJ := lh (fun W h => HCL.out j hlt W h)
      have HSMJ := lh (HSM.out l[j].m)
      clear cc hcell HCL HOK HSC HSM HCE HCI
      generalize l[j].m.cs = ms at *
      generalize l[j].cs = cs at *
      generalize l[j].fl = ff at *
      have hz := heap_alloc_new wr (.cells (mg0.cs ++ [Value.int .i64 0]).toArray 82)
      go_upto_region 5 with (first | refine wpList_load_mid rfl 82 _ rfl bk (off + j * 40) rfl cs _ hr HUC.out rfl HSJ.out ?_ | refine wpList_store_row rfl 82 _ _ rfl wr.heap.size cs.toArray rfl rfl 82 (mg0.cs ++ [Value.int .i64 0]).toArray hz HSZ.out HSYZ.out HAL.out ?_)
      generalize hwx : World.setRow _ _ _ = w4
      have b4 := (show Below wr.heap.size wr w4 from by rw [← hwx]; exact below_setRow (alloc_below wr _) (Nat.le_refl _) _)
      have HD4 := lh (show w4.heap[wr.heap.size]? = some (.cells cs.toArray 82 (0, 0)) from by rw [← hwx]; exact heap_setRow_same (heap_alloc_new wr _))
      have HS4 := lh (HS3.out.next b4)
      have HO4 := lh (own_next HO3.out b4)
      have HGO := lh (fun k (e : Value.ownBlock _ = some k) => (HO3.out.lt k e).2)
      clear hz hwx b4 HS3 HO3 hr
      generalize wr.heap.size = g at *
      obtain ⟨ad, cpo, rfl, _⟩ := own_form HO4.out
      have HS5 := lh (HS4.out.next (below_drew1 w4))
      have HO5 := lh (own_next HO4.out (below_drew1 w4))
      have HD5 := lh (((below_drew1 w4).block _ (row_ltP HD4.out)).trans HD4.out)
      clear HS4 HO4 HD4
      refine wp_region_held_drew (S := (fun W' => W'.rangeAt g 0 ms ∧ W'.cell? ⟨g, 39, none⟩ = some (.int .i64 ff))) (by kernel_rfl) (HRC.out _ _ HD5.out) (fun hHeld => ?_)
      refine tk 0 17 ?_
      refine tk 1 18 ?_
      refine tkY (v := .agg ms.toArray) 2 19 rfl (yieldsIf_load_mid (by rfl) 48 (.tmp 18) rfl g 0 (by rfl) ms _ (fun _ h => h.1) HUM.out rfl HSMJ.out) ?_
      refine tk 4 21 ?_
      refine tk (hy := by (intro w hSw; obtain ⟨_, hSw2⟩ := hSw; go_simp <;> with_reducible rfl)) 5 22 ?_
      refine rdy 3 (fun K hK => ?_)
      go_simp
      have hb5 := HS5.out.2.2
      go_wp2_with (go_at_call 27; (with_reducible refine (HCJ.out _ hb5).mono ?_); rintro e w6 ⟨m2, rfl, hm2, b6⟩)
      have HM2 := lh hm2.2.ok
      have HS6 := lh (HS5.out.next b6)
      have HO6 := lh (own_next HO5.out b6)
      have HD6 := lh ((b6.block _ (row_ltP HD5.out)).trans HD5.out)
      clear b6 hb5 hm2 HS5 HO5 HD5 HCJ
      refine hK.out _ _ (HRC.out _ _ HD6.out) (fun hHeld => ?_)
      clear hK K
      try simp only [Act.put, px1, px2, px3]
      refine rdy 6 (fun K hK => ?_)
      refine step_build rfl 82 _ rfl (m2.cs ++ [Value.int .i64 ff]).toArray (by simp only [List.map_toArray, List.map_cons, List.map_nil]; exact HBU.out _ _) ?_
      refine hK.out _ _ (HRC.out _ _ HD6.out) (fun hHeld => ?_)
      clear hK K
      try simp only [Act.put, px1, px2, px3]
      have HML : RowKit.Hid ((m2.cs ++ [Value.int .i64 ff]).length = 40) := lh rfl
      have HMO : RowKit.Hid (∀ u ∈ m2.cs ++ [Value.int .i64 ff], u.oneCell' = true) := lh (by
        intro u hu
        rcases List.mem_append.1 hu with h | h
        · exact m2.one HM2.out u h
        · simp only [List.mem_singleton] at h; subst h; rfl)
      have HBSX := lh (HBS.out m2 ff)
      clear HBU HBS HM2
      generalize m2.cs ++ [Value.int .i64 ff] = LC at *
      refine rdy 7 (fun K hK => ?_)
      refine step_buildSlice rfl 39 82 1 _ rfl Tryz.underlying39 LC.toArray (by simp only [List.map_toArray, List.map_cons, List.map_nil]; exact HBSX.out) ?_
      have ba := alloc_below w6 (.cells LC.toArray 82)
      have HD7 := lh ((ba.block _ (row_ltP HD6.out)).trans HD6.out)
      have HS7 := lh (HS6.out.next ba)
      have HO7 := lh (HO6.out.alloc (.cells LC.toArray 82))
      have hsz7 : w.heap.size ≤ (w6.alloc (.cells LC.toArray 82)).heap.size := by have h1 := ba.size; have h2 := HS6.out.2.2.size; omega
      refine hK.out _ _ (HRC.out _ _ HD7.out) (fun hHeld => ?_)
      clear hK K ba
      try simp only [Act.put, px1, px2, px3]
      refine rdy 8 (fun K hK => ?_)
      refine step_append_any rfl _ _ 39 rfl w.heap.size 82 i0 (.agg (mg0.cs ++ [Value.int .i64 0]).toArray) 40 432 Tryz.underlying39 hi hz0 hz1 hz2 rfl (by decide) (.slice ad j cpo) j xs rfl HO7.out (some ⟨w6.heap.size, 0, none⟩) 1 1 LC rfl (fun h => nomatch h) (by rw [HML.out]) ?c2 HMO.out ?c4 ?c5 hsz7 ?_
      case c2 =>
        intro a2 ha2
        cases ha2
        exact World.news_of_block (t := 82) (fr := (0, 0)) (heap_alloc_new w6 _)
      case c4 => unfold maxLen; omega
      case c5 => omega
      intro v2 w8 hown8 hgrow8 _
      have HD8 := lh ((hgrow8.block _ (row_ltP HD7.out) (fun e => by have := HGO.out g e.symm; omega)).trans HD7.out)
      have HS8 := lh (HS7.out.own HO7.out hgrow8)
      have HO8 := lh hown8
      clear hown8 hgrow8 HS7 HO7 HD7 HS6 HO6 HD6
      refine hK.out _ _ (HRC.out _ _ HD8.out) (fun hHeld => ?_)
      clear hK K
      try simp only [Act.put, px1, px2, px3]
      refine tk 9 3 ?_
      refine wpAnyH_done (by kernel_rfl) ?_ _
      clear hHeld
      go_wp2_with fail
      have hk := HK.out
      go_roundg (l.length - (j + 1))
      case measure => omega
      case rel => exact ⟨j + 1, by omega, by go_num, ⟨HS8.out, ⟨_, HO8.out⟩⟩, rfl⟩
    · obtain rfl : j = l.length := by omega
      obtain ⟨ad, cpo, rfl, _⟩ := own_form HO3.out
      clear HCL HOK HCE HBU HBS HK HSC HSM
      have K1 := lh HS3.out.1
      have K2 := lh HS3.out.2.1
      have HB3 := lh HS3.out.2.2
      obtain ⟨c0, c1, c2, c3, c4, c5⟩ := six_cells K1.out
      obtain ⟨f0, f1, f2, f3, f4, f5⟩ := six_frozen K1.out
      have hlt0 : w.heap.size < wr.heap.size := row_ltP K1.out
      have hm1 := heap_setCell_same wr w.heap.size 4 _ _ (.slice ad l.length cpo) K1.out
      have hg3 := grown_setG (below_grownBy (Below.refl _ wr) (some w.heap.size)) 4 (.slice ad l.length cpo)
      have M2 := lh ((hg3.block _ (row_ltP K2.out) (fun e => by have := Option.some.inj e; omega)).trans K2.out)
      have HO4 := lh (HO3.out.kept hg3 (Or.inr (own_neP HO3.out K1.out (by decide))))
      have HB4 := lh (HB3.out.setCell (p := ⟨w.heap.size, 4, none⟩) (Nat.le_refl _) (.slice ad l.length cpo))
      have M1 := lh (show (wr.setCell ⟨w.heap.size, 4, none⟩ (.slice ad l.length cpo)).heap[w.heap.size]? = some (.cells #[.bool c.up, .int .i64 c.ms, .string (T c.ss), .slice af nf cf, .slice ad l.length cpo, .string (T c.pt)] 41 (0, 0)) from hm1)
      clear hm1 hg3 K1 K2 HB3 HO3 HS3
      go_upto_region 8 with fail
      generalize World.setCell wr ⟨w.heap.size, 4, none⟩ (.slice ad l.length cpo) = w3 at *
      clear c0 c1 c2 c3 c4 c5 f0 f1 f2 f3 f4 f5
      obtain ⟨c0, c1, c2, c3, c4, c5⟩ := six_cells M1.out
      obtain ⟨f0, f1, f2, f3, f4, f5⟩ := six_frozen M1.out
      have hb := HB4.out
      go_wp2_with fail
      (with_reducible refine (HCI.out _ hb).mono ?_); rintro e w4 ⟨fv2, rfl, ⟨hfv, _⟩, b4⟩
      obtain ⟨a2, n2, k2, rfl⟩ := hfv.form
      have N1 := lh ((b4.block _ (row_ltP M1.out)).trans M1.out)
      have N2 := lh ((b4.block _ (row_ltP M2.out)).trans M2.out)
      have HO5 := lh (own_next HO4.out b4)
      have HB5 := lh (bnext HB4.out b4)
      clear b4 hb hfv M1 M2 HO4 HB4 c0 c1 c2 c3 c4 c5 f0 f1 f2 f3 f4 f5
      obtain ⟨c0, c1, c2, c3, c4, c5⟩ := six_cells N1.out
      obtain ⟨f0, f1, f2, f3, f4, f5⟩ := six_frozen N1.out
      have hm1 := heap_setCell_same w4 w.heap.size 3 _ _ (.slice a2 n2 k2) N1.out
      have hg4 := grown_setG (below_grownBy (Below.refl _ w4) (some w.heap.size)) 3 (.slice a2 n2 k2)
      have O2 := lh ((hg4.block _ (row_ltP N2.out) (fun e => by have := Option.some.inj e; omega)).trans N2.out)
      have HO6 := lh (HO5.out.kept hg4 (Or.inr (own_neP HO5.out N1.out (by decide))))
      have HB6 := lh (HB5.out.setCell (p := ⟨w.heap.size, 3, none⟩) (Nat.le_refl _) (.slice a2 n2 k2))
      have O1 := lh (show (w4.setCell ⟨w.heap.size, 3, none⟩ (.slice a2 n2 k2)).heap[w.heap.size]? = some (.cells #[.bool c.up, .int .i64 c.ms, .string (T c.ss), .slice a2 n2 k2, .slice ad l.length cpo, .string (T c.pt)] 41 (0, 0)) from hm1)
      clear hm1 hg4 N1 N2 HB5 HO5
      go_upto_region 9 with fail
      generalize World.setCell w4 ⟨w.heap.size, 3, none⟩ (.slice a2 n2 k2) = w5 at *
      clear c0 c1 c2 c3 c4 c5 f0 f1 f2 f3 f4 f5
      obtain ⟨c0, c1, c2, c3, c4, c5⟩ := six_cells O1.out
      obtain ⟨d0, d1, d2, d3, d4, d5⟩ := six_cells O2.out
      obtain ⟨f0, f1, f2, f3, f4, f5⟩ := six_frozen O2.out
      go_wp2_with fail
      have hq := six_stored (v0 := .bool c.up) (v1 := .int .i64 c.ms) (v2 := .string (T c.ss)) (v3 := .slice a2 n2 k2) (v4 := .slice ad l.length cpo) (v5 := .string (T c.pt)) O2.out
      obtain ⟨q0, q1, q2, q3, q4, q5⟩ := six_cells hq
      have hg5 := six_grown (W := w5) (w.heap.size + 1) (.bool c.up) (.int .i64 c.ms) (.string (T c.ss)) (.slice a2 n2 k2) (.slice ad l.length cpo) (.string (T c.pt))
      have hb5 : Below w.heap.size w _ := HB6.out.trans ⟨hg5.os, hg5.tape, hg5.output, hg5.size, fun i hi => hg5.block i (by have := HB6.out.size; omega) (fun e => by have := Option.some.inj e; omega)⟩
      exact bodyPost_ret (v := .agg #[.bool c.up, .int .i64 c.ms, .string (T c.ss), .slice a2 n2 k2, .slice ad l.length cpo, .string (T c.pt)]) (by simp [results, Tryz.results24, go_sem, q0, q1, q2, q3, q4, q5]) rfl ⟨a2, n2, k2, _, xs, rfl, HO6.out.kept hg5 (Or.inr (own_neP HO6.out O2.out (by decide))), hb5⟩
end Go.Proofs.YtfibaopngpfmjaaGreatDoor
