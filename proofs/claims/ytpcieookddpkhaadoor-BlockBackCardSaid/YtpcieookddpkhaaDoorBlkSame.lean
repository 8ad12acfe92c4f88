/- What the reference's Same returns: are two stores equal? Conditions: the slices hold the given blocks; at most 10^6 of them. -/
import Derived.Test.YtpcieookddpkhaaDoorBlkGet
set_option linter.unusedVariables false
set_option linter.unusedSimpArgs false
namespace Go.Proofs.YtpcieookddpkhaaDoor
open Go.RowKit
namespace Blok
open Classical in
noncomputable def same (c1 : Int) (b1 : List Blk) (c2 : Int) (b2 : List Blk) : Bool := decide (c1 = c2 ∧ b1 = b2)
theorem same_no {c1 c2 : Int} {b1 b2 : List Blk} (h : ¬ (c1 = c2 ∧ b1 = b2)) : same c1 b1 c2 b2 = false := decide_eq_false h
theorem same_yes {c : Int} {b : List Blk} : same c b c b = true := decide_eq_true ⟨rfl, rfl⟩
end Blok
theorem Blks.at {w : World} {ao : Option Addr} {n cap : Nat} {bs : List Blk} (h : Blks w (.slice ao n cap) bs) : n = bs.length ∧ ∀ j (hj : j < bs.length), ∃ b off, ao = some ⟨b, off, none⟩ ∧ b < w.heap.size ∧
    w.cell? ⟨b, off + j * 3, none⟩ = some (.string (T bs[j].sc)) ∧ w.cell? ⟨b, off + j * 3 + 1, none⟩ = some (.int .i64 bs[j].kd) ∧ w.cell? ⟨b, off + j * 3 + 2, none⟩ = some (.string (T bs[j].dt)) := by
  obtain ⟨ao', cap', hv, _, _, hc⟩ := h
  cases hv
  exact ⟨rfl, hc⟩
theorem bk_ext {a b : Blk} (h1 : a.sc = b.sc) (h2 : a.kd = b.kd) (h3 : a.dt = b.dt) : a = b := by cases a; cases b; simp only at h1 h2 h3; subst h1; subst h2; subst h3; rfl
set_option maxRecDepth 20000 in
set_option maxHeartbeats 2000000 in
theorem same_any (c1 : Int) (v1 : Value) (b1 : List Blk) (c2 : Int) (v2 : Value) (b2 : List Blk) (w : World) (h1 : Blks w v1 b1) (h2 : Blks w v2 b2) (hl : b1.length ≤ 1000000) (hl2 : b2.length ≤ 1000000) :
    Calls Tryd.prog 10 #[.agg #[.int .i64 c1, v1], .agg #[.int .i64 c2, v2]] w fun e w' => e = .returned (.bool (Blok.same c1 b1 c2 b2)) ∧ Below w.heap.size w w' := by
  obtain ⟨a1, n1, p1, rfl⟩ := h1.form
  obtain ⟨a2, n2, p2, rfl⟩ := h2.form
  obtain ⟨rfl, k1⟩ := h1.at
  obtain ⟨rfl, k2⟩ := h2.at
  have HB := Lib.hid (Below.refl w.heap.size w)
  have H1 := Lib.hid k1
  have H2 := Lib.hid k2
  clear h1 h2 k1 k2
  by_cases hc : c1 = c2
  · subst hc
    by_cases hn : b1.length = b2.length
    · have hni : (b1.length : Int) = b2.length := by omega
      have HNN := Lib.hid hn
      rw [← hn]
      clear hn hni hl2
      go_enter Tryd.func10, Tryd.ntmps10
      go_wp2_with fail
      go_loopw [5] (fun i wr => ∃ k : Nat, k ≤ b1.length ∧ i = .int .i64 (k : Int) ∧ Hid (∀ j (hj : j < k) (hk : k ≤ b1.length), b1[j]? = b2[j]?) ∧ wr.heap[w.heap.size]? = some (.cells #[.int .i64 c1, .slice a1 b1.length p1] 24 (0, 0)) ∧ wr.heap[w.heap.size + 1]? = some (.cells #[.int .i64 c1, .slice a2 b1.length p2] 24 (0, 0)) ∧ Below w.heap.size w wr) (fun i _ => b1.length - (intOf i).toNat)
      case atStart => exact ⟨0, by omega, rfl, (fun j hj => by omega), heap_alloc2_old _ _ _, heap_alloc2_new _ _ _, (HB.out.alloc (Nat.le_refl _) _).alloc (by simp) _⟩
      case round =>
        obtain ⟨k, hk, rfl, hn, hr1, hr2, hb⟩ := hrel
        have q0 : wr.cell? ⟨w.heap.size, 1, none⟩ = some (.slice a1 b1.length p1) := by rw [cell_of_row _ _ _ _ _ _ hr1]; rfl
        have q1 : wr.cell? ⟨w.heap.size + 1, 1, none⟩ = some (.slice a2 b1.length p2) := by rw [cell_of_row _ _ _ _ _ _ hr2]; rfl
        have HR1 := Lib.hid hr1
        have HR2 := Lib.hid hr2
        have HBB := Lib.hid hb
        clear hr1 hr2 hb
        by_cases hlt : k < b1.length
        · obtain ⟨x1, o1, rfl, l1, c0, c1', c2'⟩ := H1.out k hlt
          obtain ⟨x2, o2, rfl, l2, d0, d1', d2'⟩ := H2.out k (by have := HNN.out; omega)
          rw [← HBB.out.cell (p := ⟨x1, o1 + k * 3, none⟩) l1] at c0
          rw [← HBB.out.cell (p := ⟨x1, o1 + k * 3 + 1, none⟩) l1] at c1'
          rw [← HBB.out.cell (p := ⟨x1, o1 + k * 3 + 2, none⟩) l1] at c2'
          rw [← HBB.out.cell (p := ⟨x2, o2 + k * 3, none⟩) l2] at d0
          rw [← HBB.out.cell (p := ⟨x2, o2 + k * 3 + 1, none⟩) l2] at d1'
          rw [← HBB.out.cell (p := ⟨x2, o2 + k * 3 + 2, none⟩) l2] at d2'
          by_cases hs : b1[k].sc = (b2[k]'(by have := HNN.out; omega)).sc
          · by_cases hkd : b1[k].kd = (b2[k]'(by have := HNN.out; omega)).kd
            · by_cases hdt : b1[k].dt = (b2[k]'(by have := HNN.out; omega)).dt
              · have HS : Hid (∀ j (hj : j < k + 1) (hk : k + 1 ≤ b1.length), b1[j]? = b2[j]?) := fun j hj hk' => by
                  rcases Nat.lt_or_ge j k with h | h
                  · exact hn.out j h hk
                  · obtain rfl : j = k := by omega
                    have hx : j < b2.length := by have := HNN.out; omega
                    rw [List.getElem?_eq_getElem hlt, List.getElem?_eq_getElem hx]
                    exact congrArg some (bk_ext hs hkd hdt)
                rw [← hs] at d0
                rw [← hkd] at d1'
                rw [← hdt] at d2'
                clear hs hkd hdt
                go_wp2_with fail
                go_quiet (fail)
                go_wp2_with fail
                go_roundw
                case rel => exact ⟨k + 1, by omega, by go_num, HS, HR1.out, HR2.out, below_drewN HBB.out _⟩
                case measure => simp [intOf]; omega
              · have HF := Lib.hid (Blok.same_no (c1 := c1) (c2 := c1) (b1 := b1) (b2 := b2) (fun h => hdt (by have e := h.2; subst e; rfl)))
                have hq := teq_no hdt
                go_wp2_with fail
                go_quiet (fail)
                go_wp2_with fail
                go_ret
                exact ⟨by rw [HF.out]; rfl, below_drewN HBB.out _⟩
            · have HF := Lib.hid (Blok.same_no (c1 := c1) (c2 := c1) (b1 := b1) (b2 := b2) (fun h => hkd (by have e := h.2; subst e; rfl)))
              have hq := (beq_eq_false_iff_ne.2 hkd : (b1[k].kd == (b2[k]'(by have := HNN.out; omega)).kd) = false)
              go_wp2_with fail
              go_quiet (fail)
              go_wp2_with fail
              go_ret
              exact ⟨by rw [HF.out]; rfl, below_drewN HBB.out _⟩
          · have HF := Lib.hid (Blok.same_no (c1 := c1) (c2 := c1) (b1 := b1) (b2 := b2) (fun h => hs (by have e := h.2; subst e; rfl)))
            have hq := teq_no hs
            go_wp2_with fail
            go_quiet (fail)
            go_wp2_with fail
            go_ret
            exact ⟨by rw [HF.out]; rfl, below_drewN HBB.out _⟩
        · obtain rfl : k = b1.length := by omega
          have HF := Lib.hid (show Blok.same c1 b1 c1 b2 = true from by
            have e : b1 = b2 := List.ext_getElem? fun j => by
              rcases Nat.lt_or_ge j b1.length with h | h
              · exact hn.out j h (Nat.le_refl _)
              · rw [List.getElem?_eq_none h, List.getElem?_eq_none (by have := HNN.out; omega)]
            rw [← e]; exact Blok.same_yes)
          go_wp2_with fail
          go_ret
          exact ⟨by rw [HF.out]; rfl, HBB.out⟩
    · have HF := Lib.hid (Blok.same_no (c1 := c1) (c2 := c1) (b1 := b1) (b2 := b2) (fun h => hn (by rw [h.2])))
      have hq : ((b1.length : Int) == (b2.length : Int)) = false := beq_eq_false_iff_ne.2 (by omega)
      go_enter Tryd.func10, Tryd.ntmps10
      go_wp2_with fail
      go_ret
      exact ⟨by rw [HF.out]; rfl, (HB.out.alloc (Nat.le_refl _) _).alloc (by simp) _⟩
  · have HF := Lib.hid (Blok.same_no (b1 := b1) (b2 := b2) (fun h => hc h.1))
    have hq : (c1 == c2) = false := beq_eq_false_iff_ne.2 hc
    go_enter Tryd.func10, Tryd.ntmps10
    go_wp2_with fail
    go_ret
    exact ⟨by rw [HF.out]; rfl, (HB.out.alloc (Nat.le_refl _) _).alloc (by simp) _⟩
end Go.Proofs.YtpcieookddpkhaaDoor
