/- What the reference's Right returns: Blok.right. Conditions: the slice holds the given blocks; at most 10^6 of them. -/
import Derived.Test.YtpcieookddpkhaaDoorBlkSame
import Derived.Deep.DeepCutAuto
set_option linter.unusedVariables false
set_option linter.unusedSimpArgs false
namespace Go.Proofs.YtpcieookddpkhaaDoor
open Go.RowKit
theorem Blks.take {w : World} {ao : Option Addr} {n cap : Nat} {bs : List Blk} (h : Blks w (.slice ao n cap) bs) (k : Nat) (hk : k ≤ bs.length) : Blks w (.slice ao k cap) (bs.take k) := by
  obtain ⟨ao', cap', hv, hc, hn, hcell⟩ := h
  cases hv
  refine ⟨ao, cap, by rw [List.length_take, Nat.min_eq_left hk], by rw [List.length_take]; omega, hn, fun j hj => ?_⟩
  rw [List.length_take] at hj
  have hj2 : j < bs.length := by omega
  rw [List.getElem_take]
  exact hcell j hj2
namespace Blok
open Classical in
theorem right_no {c : Int} {bs : List Blk} (h : ¬ Right c bs) : right c bs = false := by unfold right; exact decide_eq_false h
open Classical in
theorem right_yes {c : Int} {bs : List Blk} (h : Right c bs) : right c bs = true := by unfold right; exact decide_eq_true h
theorem not_at {c : Int} {bs : List Blk} {k : Nat} (hk : k < bs.length) (h : ¬ okAt bs k bs[k]) : right c bs = false := right_no fun hr => h (hr.2.2.2 k hk)
end Blok
set_option maxRecDepth 20000 in
set_option maxHeartbeats 2000000 in
theorem rright_any (c : Int) (v : Value) (bs : List Blk) (w : World) (hv : Blks w v bs) (hl : bs.length ≤ 1000000) :
    Calls Tryd.prog 13 #[.agg #[.int .i64 c, v]] w fun e w' => e = .returned (.bool (Blok.right c bs)) ∧ Below w.heap.size w w' := by
  obtain ⟨ao, n, cp, rfl⟩ := hv.form
  obtain ⟨rfl, k1⟩ := hv.at
  have hcp : bs.length ≤ cp := by obtain ⟨_, _, e, h, _⟩ := hv; cases e; exact h
  have HB := Lib.hid (Below.refl w.heap.size w)
  have H1 := Lib.hid k1
  have HV := Lib.hid hv
  clear hv k1
  rcases Int.lt_or_le c 1 with hc1 | hc1
  · have HF := Lib.hid (Blok.right_no (c := c) (bs := bs) (fun h => by have := h.1; omega))
    go_enter Tryd.func13, Tryd.ntmps13
    go_wp2_with fail
    go_ret
    exact ⟨by rw [HF.out]; rfl, HB.out.alloc (Nat.le_refl _) _⟩
  rcases Int.lt_or_le 4096 c with hc2 | hc2
  · have HF := Lib.hid (Blok.right_no (c := c) (bs := bs) (fun h => by have := h.2.1; omega))
    go_enter Tryd.func13, Tryd.ntmps13
    go_wp2_with fail
    go_ret
    exact ⟨by rw [HF.out]; rfl, HB.out.alloc (Nat.le_refl _) _⟩
  rcases Int.lt_or_le c bs.length with hc3 | hc3
  · have HF := Lib.hid (Blok.right_no (c := c) (bs := bs) (fun h => by have := h.2.2.1; omega))
    go_enter Tryd.func13, Tryd.ntmps13
    go_wp2_with fail
    go_ret
    exact ⟨by rw [HF.out]; rfl, HB.out.alloc (Nat.le_refl _) _⟩
  have HOK := Lib.hid (fun h : ∀ i (h : i < bs.length), Blok.okAt bs i bs[i] => Blok.right_yes (c := c) (bs := bs) ⟨hc1, hc2, hc3, h⟩)
  go_enter Tryd.func13, Tryd.ntmps13
  go_wp2_with fail
  go_loopw [3] (fun i wr => ∃ k : Nat, k ≤ bs.length ∧ i = .int .i64 (k : Int) ∧ Hid (∀ j (hj : j < k) (hk : k ≤ bs.length), Blok.okAt bs j (bs[j]'(by omega))) ∧ wr.heap[w.heap.size]? = some (.cells #[.int .i64 c, .slice ao bs.length cp] 24 (0, 0)) ∧ Below w.heap.size w wr) (fun i _ => bs.length - (intOf i).toNat)
  case atStart => exact ⟨0, by omega, rfl, (fun j hj => by omega), heap_alloc_new _ _, HB.out.alloc (Nat.le_refl _) _⟩
  case round =>
    obtain ⟨k, hk, rfl, hn, hr1, hb⟩ := hrel
    have q0 : wr.cell? ⟨w.heap.size, 1, none⟩ = some (.slice ao bs.length cp) := by rw [cell_of_row _ _ _ _ _ _ hr1]; rfl
    have HR1 := Lib.hid hr1
    have HBB := Lib.hid hb
    clear hr1 hb
    by_cases hlt : k < bs.length
    · obtain ⟨x1, o1, rfl, l1, c0, c1', c2'⟩ := H1.out k hlt
      rw [← HBB.out.cell (p := ⟨x1, o1 + k * 3, none⟩) l1] at c0
      rw [← HBB.out.cell (p := ⟨x1, o1 + k * 3 + 1, none⟩) l1] at c1'
      rw [← HBB.out.cell (p := ⟨x1, o1 + k * 3 + 2, none⟩) l1] at c2'
      have hkc : (k : Int) ≤ cp := by omega
      have HKN := Lib.hid (fun (n : Nat) => Calls.quiet_of_same ((kind_any bs[k].kd ((wr.alloc (.cells #[.string (T bs[k].sc), .int .i64 bs[k].kd, .string (T bs[k].dt)] 49)).drewN n)).mono fun _ _ h => ⟨h.1, h.2.symm⟩))
      have HAT := Lib.hid (fun (n : Nat) => Calls.quiet_of_same ((rat_any (.slice (some ⟨x1, o1, none⟩) k cp) (bs.take k) bs[k].sc ((wr.alloc (.cells #[.string (T bs[k].sc), .int .i64 bs[k].kd, .string (T bs[k].dt)] 49)).drewN n) (((HV.out.take k hk).below HBB.out).below (below_drewN ((Below.refl _ _).alloc (Nat.le_refl _) _) n)) (by rw [List.length_take]; omega)).mono fun _ _ h => ⟨h.1, h.2.symm⟩))
      have HE := Lib.hid (Blok.not_at (c := c) hlt)
      have q1 : (wr.alloc (.cells #[.string (T bs[k].sc), .int .i64 bs[k].kd, .string (T bs[k].dt)] 49)).cell? ⟨w.heap.size, 1, none⟩ = some (.slice (some ⟨x1, o1, none⟩) bs.length cp) := by
        rw [World.cell?_alloc_lt _ _ _ (block_lt_of_cell q0)]; exact q0
      have hk0 : (0 : Int) ≤ (k : Int) := by omega
      have hkl : (k : Int) ≤ bs.length := by omega
      cases hkn : Blok.known bs[k].kd
      · have HF := Lib.hid (HE.out (fun h => by rw [h.1] at hkn; cases hkn))
        rw [hkn] at HKN
        go_upto_region 7 with fail
        go_quiet (first | (go_at_call 27; with_reducible exact HKN.out _) | (go_at_call 28; with_reducible exact HAT.out _))
        go_wp2_with fail
        go_ret
        exact ⟨by rw [HF.out]; rfl, HBB.out.trans (Below.mono (below_drewN ((Below.refl wr.heap.size wr).alloc (Nat.le_refl _) _) _) HBB.out.size)⟩
      rw [hkn] at HKN
      rcases Nat.lt_or_ge 1024 bs[k].dt.length with hdt | hdt
      · have HF := Lib.hid (HE.out (fun h => by have := h.2.1; omega))
        have hdi : (1024 : Int) < bs[k].dt.length := by omega
        go_upto_region 7 with fail
        go_quiet (first | (go_at_call 27; with_reducible exact HKN.out _) | (go_at_call 28; with_reducible exact HAT.out _))
        go_wp2_with fail
        go_ret
        exact ⟨by rw [HF.out]; rfl, HBB.out.trans (Below.mono (below_drewN ((Below.refl wr.heap.size wr).alloc (Nat.le_refl _) _) _) HBB.out.size)⟩
      have hdi : (bs[k].dt.length : Int) ≤ 1024 := by omega
      by_cases hsc' : ¬ bs[k].sc.length = 32
      · have hsc := hsc'
        have HF := Lib.hid (HE.out (fun h => hsc h.2.2.1))
        have hsi : ¬ (bs[k].sc.length : Int) = 32 := by omega
        go_upto_region 7 with fail
        go_quiet (first | (go_at_call 27; with_reducible exact HKN.out _) | (go_at_call 28; with_reducible exact HAT.out _))
        go_wp2_with fail
        go_ret
        exact ⟨by rw [HF.out]; rfl, HBB.out.trans (Below.mono (below_drewN ((Below.refl wr.heap.size wr).alloc (Nat.le_refl _) _) _) HBB.out.size)⟩
      have hsc : bs[k].sc.length = 32 := by omega
      have hsi : (bs[k].sc.length : Int) = 32 := by omega
      by_cases hix : 0 ≤ Blok.idx bs[k].sc (bs.take k)
      · have HF := Lib.hid (HE.out (fun h => by have := h.2.2.2; omega))
        go_upto_region 7 with fail
        go_quiet (first | (go_at_call 27; with_reducible exact HKN.out _) | (go_at_call 28; with_reducible exact HAT.out _))
        go_wp2_with fail
        go_ret
        exact ⟨by rw [HF.out]; rfl, HBB.out.trans (Below.mono (below_drewN ((Below.refl wr.heap.size wr).alloc (Nat.le_refl _) _) _) HBB.out.size)⟩
      have hx2 : Blok.idx bs[k].sc (bs.take k) < 0 := by omega
      have HS : Hid (∀ j (hj : j < k + 1) (hk : k + 1 ≤ bs.length), Blok.okAt bs j (bs[j]'(by omega))) := fun j hj hk' => by
        rcases Nat.lt_or_ge j k with h | h
        · exact hn.out j h hk
        · obtain rfl : j = k := by omega
          exact ⟨hkn, hdt, hsc, hx2⟩
      go_upto_region 7 with fail
      go_quiet (first | (go_at_call 27; with_reducible exact HKN.out _) | (go_at_call 28; with_reducible exact HAT.out _))
      go_wp2_with fail
      go_roundw
      case rel => exact ⟨k + 1, by omega, by go_num, HS, (below_drewN ((Below.refl wr.heap.size wr).alloc (Nat.le_refl _) _) _).block _ (block_lt_of_cell q0) |>.trans HR1.out, HBB.out.trans (Below.mono (below_drewN ((Below.refl wr.heap.size wr).alloc (Nat.le_refl _) _) _) HBB.out.size)⟩
      case measure => simp [intOf]; omega
    · obtain rfl : k = bs.length := by omega
      have HF := Lib.hid (HOK.out fun j hj => hn.out j hj (Nat.le_refl _))
      go_wp2_with fail
      go_ret
      exact ⟨by rw [HF.out]; rfl, HBB.out⟩
end Go.Proofs.YtpcieookddpkhaaDoor
