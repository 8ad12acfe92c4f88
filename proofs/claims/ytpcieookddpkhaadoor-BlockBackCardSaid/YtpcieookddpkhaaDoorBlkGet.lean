/- What Get and the reference's Get return: Blok.get. Conditions: the slice holds the given blocks; at most 10^6 of them, with at most 10^6 bytes each; the 64 constants in the variable. -/
import Derived.Test.YtpcieookddpkhaaDoorBlkFns
import Derived.Deep.RegionHeldLaw
import Derived.Deep.DeepCutAuto
set_option linter.unusedVariables false
set_option linter.unusedSimpArgs false
namespace Go.Proofs.YtpcieookddpkhaaDoor
open Go.RowKit
namespace Blok
theorem get_none {bs : List Blk} {x : List UInt8} {k : Int} (h : idx x bs < 0) : get bs x k = ([], 35) := by
  unfold get; split
  · rfl
  · rw [if_pos h]
theorem get_at {bs : List Blk} {x : List UInt8} {k : Int} {i : Nat} (hi : i < bs.length) (h : idx x bs = i) : get bs x k = if bs[i].kd ≠ k then ([], 1) else if bs[i] ≠ made k bs[i].dt then ([], 34) else (bs[i].dt, 0) := by
  unfold get
  have e : (idx x bs).toNat = i := by omega
  rw [e, List.getElem?_eq_getElem hi]
  simp only [if_neg (show ¬ idx x bs < 0 by omega)]
theorem hit {x : List UInt8} {bs : List Blk} (h : 0 ≤ idx x bs) : ∃ (i : Nat) (hi : i < bs.length), idx x bs = i ∧ bs[i].sc = x := by
  obtain ⟨hk, hs⟩ := idx_hit x bs h
  exact ⟨_, hk, by omega, hs⟩
end Blok
def BkGetSays (bs : List Blk) (x : List UInt8) (k : Int) (w : World) (e : Ending) (w' : World) : Prop :=
  e = .returned (.tuple #[.string (T (Blok.get bs x k).1), .int .i64 (Blok.get bs x k).2]) ∧ Below w.heap.size w w'
theorem bkget_says {bs : List Blk} {x : List UInt8} {k : Int} {w w' : World} {a : List UInt8} {e : Int} (h : Blok.get bs x k = (a, e)) (hb : Below w.heap.size w w') : BkGetSays bs x k w (.returned (.tuple #[.string (T a), .int .i64 e])) w' := by
  unfold BkGetSays; rw [h]; exact ⟨rfl, hb⟩
set_option maxRecDepth 20000 in
set_option maxHeartbeats 2000000 in
theorem rbkget_any (c : Int) (v : Value) (bs : List Blk) (x : List UInt8) (k : Int) (w : World) (hv : Blks w v bs) (hl : bs.length ≤ 1000000) (hd : ∀ j (h : j < bs.length), bs[j].dt.length ≤ 1000000) :
    Calls Tryd.prog 16 #[.agg #[.int .i64 c, v], .string (T x), .int .i64 k] w (BkGetSays bs x k w) := by
  obtain ⟨ao, n, cp, rfl⟩ := hv.form
  have HB := Lib.hid (Below.refl w.heap.size w)
  have HAT := Lib.hid (fun w' (h : Below w.heap.size w w') => rat_any (.slice ao n cp) bs x w' (hv.below h) hl)
  rcases Int.lt_or_le (Blok.idx x bs) 0 with hi | hi
  · have HF := Lib.hid (Blok.get_none (k := k) hi)
    generalize Blok.idx x bs = I at *
    clear hv
    go_enter Tryd.func16, Tryd.ntmps16
    go_wp2_with fail
    refine (HAT.out _ (HB.out.alloc (Nat.le_refl _) _)).mono ?_; rintro e w1 ⟨rfl, rfl⟩
    go_wp2_with fail
    go_ret2
    exact bkget_says HF.out (HB.out.alloc (Nat.le_refl _) _)
  · obtain ⟨i, hk, hii, hs⟩ := Blok.hit hi
    have HF := Lib.hid (Blok.get_at (k := k) hk hii)
    have HS := Lib.hid hs
    rw [hii] at HAT
    obtain ⟨ao', cap, hv1, hcc, hn0, hcell⟩ := hv
    cases hv1
    obtain ⟨b, off, rfl, hb, c0, c1, c2⟩ := hcell i hk
    have HA2 := Lib.hid (fun w' (h : Below w.heap.size w w') => (HAT.out w' h).mono fun e w'' (h' : e = _ ∧ w' = w'') => (⟨h'.1, h'.2, by rw [← h'.2, h.cell (p := ⟨b, off + i * 3, none⟩) hb]; exact c0, by rw [← h'.2, h.cell (p := ⟨b, off + i * 3 + 1, none⟩) hb]; exact c1, by rw [← h'.2, h.cell (p := ⟨b, off + i * 3 + 2, none⟩) hb]; exact c2⟩ : e = .returned (.int .i64 (i : Int)) ∧ w' = w'' ∧ w''.cell? ⟨b, off + i * 3, none⟩ = some (.string (T bs[i].sc)) ∧ w''.cell? ⟨b, off + i * 3 + 1, none⟩ = some (.int .i64 bs[i].kd) ∧ w''.cell? ⟨b, off + i * 3 + 2, none⟩ = some (.string (T bs[i].dt))))
    have HD := Lib.hid (hd i hk)
    have HSC := Lib.hid (fun (w : World) => rscore_T k bs[i].dt w HD.out)
    have hne : b ≠ w.heap.size := by omega
    have hik : (i : Int) < bs.length := by omega
    clear hcell hd hi hii hs c0 c1 c2 HAT
    generalize bs[i] = B at *
    obtain ⟨bsc, bkd, bdt⟩ := B
    simp only [] at *
    by_cases hkd : bkd = k
    · subst hkd
      by_cases hsc : Blok.scr bkd bdt = x
      · have HR := Lib.hid (show Blok.get bs x bkd = (bdt, 0) from by rw [HF.out, if_neg (by simp), if_neg (by unfold Blok.made; rw [hsc, HS.out]; simp)])
        have hq := teq_yes hsc
        generalize Blok.scr bkd bdt = M at *
        clear HF hsc
        go_enter Tryd.func16, Tryd.ntmps16
        go_wp2_with fail
        refine (HA2.out _ (HB.out.alloc (Nat.le_refl _) _)).mono ?_; rintro e w1 ⟨rfl, rfl, d0, d1, d2⟩
        go_wp2_with fail
        refine (HSC.out _).mono ?_; rintro e w2 ⟨rfl, h2⟩
        have hr := after_alloc2_new h2
        have hbl := Lib.hid (after_alloc2 h2)
        have d5 : w2.cell? ⟨w.heap.size + 1, 2, none⟩ = some (.string (T bdt)) := by rw [cell_of_row _ _ _ _ _ _ hr]; rfl
        clear h2 hr
        go_wp2_with fail
        go_ret2
        exact bkget_says HR.out hbl.out
      · have HR := Lib.hid (show Blok.get bs x bkd = ([], 34) from by rw [HF.out, if_neg (by simp), if_pos (by unfold Blok.made; intro h; injection h with h1 _ _; exact hsc (h1.symm.trans HS.out))])
        have hq := teq_no hsc
        generalize Blok.scr bkd bdt = M at *
        clear HF hsc
        go_enter Tryd.func16, Tryd.ntmps16
        go_wp2_with fail
        refine (HA2.out _ (HB.out.alloc (Nat.le_refl _) _)).mono ?_; rintro e w1 ⟨rfl, rfl, d0, d1, d2⟩
        go_wp2_with fail
        refine (HSC.out _).mono ?_; rintro e w2 ⟨rfl, h2⟩
        have hbl := Lib.hid (after_alloc2 h2)
        clear h2
        go_wp2_with fail
        go_ret2
        exact bkget_says HR.out hbl.out
    · have HR := Lib.hid (show Blok.get bs x k = ([], 1) from by rw [HF.out, if_pos hkd])
      have hq : (bkd == k) = false := beq_eq_false_iff_ne.2 hkd
      clear HF
      go_enter Tryd.func16, Tryd.ntmps16
      go_wp2_with fail
      refine (HA2.out _ (HB.out.alloc (Nat.le_refl _) _)).mono ?_; rintro e w1 ⟨rfl, rfl, d0, d1, d2⟩
      go_wp2_with fail
      go_ret2
      exact bkget_says HR.out ((HB.out.alloc (Nat.le_refl _) _).alloc (by simp) _)

/-- What the drawn region of Get reads: the boxed store's list, the block. -/
def GetS (w1 : World) (g b o : Nat) (sl : Value) (B : Blk) (w' : World) : Prop :=
  w'.cell? ⟨g, 1, none⟩ = some sl ∧ w'.cell? ⟨b, o, none⟩ = some (.string (T B.sc)) ∧ w'.cell? ⟨b, o + 1, none⟩ = some (.int .i64 B.kd) ∧ w'.cell? ⟨b, o + 2, none⟩ = some (.string (T B.dt)) ∧ Below w1.heap.size w1 w'
theorem GetS.next {w1 w' w2 : World} {g b o : Nat} {sl : Value} {B : Blk} (h : GetS w1 g b o sl B w') (hg : g < w1.heap.size) (hb : b < w1.heap.size) (k : Below w'.heap.size w' w2) : GetS w1 g b o sl B w2 := by
  obtain ⟨h1, h2, h3, h4, h5⟩ := h
  have hg' := Nat.lt_of_lt_of_le hg h5.size
  have hb' := Nat.lt_of_lt_of_le hb h5.size
  exact ⟨by rw [k.cell (p := ⟨g, 1, none⟩) hg']; exact h1, by rw [k.cell (p := ⟨b, o, none⟩) hb']; exact h2, by rw [k.cell (p := ⟨b, o + 1, none⟩) hb']; exact h3, by rw [k.cell (p := ⟨b, o + 2, none⟩) hb']; exact h4, h5.trans (k.mono h5.size)⟩
set_option maxRecDepth 20000 in
set_option maxHeartbeats 2000000 in
theorem bkget_any (c : Int) (v : Value) (bs : List Blk) (x : List UInt8) (k : Int) (w : World) (hK : KIn w) (hv : Blks w v bs) (hl : bs.length ≤ 1000000) (hd : ∀ j (h : j < bs.length), bs[j].dt.length ≤ 1000000) :
    Calls Tryd.prog 15 #[.agg #[.int .i64 c, v], .string (T x), .int .i64 k] w (BkGetSays bs x k w) := by
  obtain ⟨ao, n, cp, rfl⟩ := hv.form
  have HB := Lib.hid (Below.refl w.heap.size w)
  have HAT := Lib.hid (fun w' (h : Below w.heap.size w w') => index_any c (.slice ao n cp) bs x w' (hv.below h) hl)
  rcases Int.lt_or_le (Blok.idx x bs) 0 with hi | hi
  · have HF := Lib.hid (Blok.get_none (k := k) hi)
    generalize Blok.idx x bs = I at *
    clear hv
    go_enter Tryd.func15, Tryd.ntmps15
    go_wp2_with fail
    refine (HAT.out _ (HB.out.alloc (Nat.le_refl _) _)).mono ?_; rintro e w1 ⟨rfl, h1⟩
    have hb := Lib.hid (after_alloc1 h1)
    clear h1
    go_wp2_with fail
    go_ret2
    exact bkget_says HF.out hb.out
  · obtain ⟨i, hk, hii, hs⟩ := Blok.hit hi
    have HF := Lib.hid (Blok.get_at (k := k) hk hii)
    have HS := Lib.hid hs
    rw [hii] at HAT
    obtain ⟨ao', cap, hv1, hcc, hn0, hcell⟩ := hv
    cases hv1
    obtain ⟨b, off, rfl, hb, c0, c1, c2⟩ := hcell i hk
    have HC := Lib.hid (And.intro c0 (And.intro c1 c2))
    have HD := Lib.hid (hd i hk)
    have HK := Lib.hid hK
    have hne : b ≠ w.heap.size := by omega
    have hik : (i : Int) < bs.length := by omega
    clear hcell hd hi hii hs c0 c1 c2 hK
    generalize bs[i] = B at *
    by_cases hkd : B.kd = k
    · subst hkd
      have hbox : ∀ (A : Obj) (w1 : World), A = .cells #[.int .i64 c, .slice (some ⟨b, off, none⟩) bs.length cp] 24 (0, 0) → Below (w.alloc A).heap.size (w.alloc A) w1 → Hid (GetS w1 w.heap.size b (off + i * 3) (.slice (some ⟨b, off, none⟩) bs.length cp) B w1 ∧ w.heap.size < w1.heap.size ∧ b < w1.heap.size ∧ KIn w1 ∧ Below w.heap.size w w1) := by
        intro A w1 hA h1
        have hr := after_alloc1_new h1
        have hbw := after_alloc1 h1
        have hsz : w.heap.size < w1.heap.size := Nat.lt_of_lt_of_le (by simp) h1.size
        refine ⟨⟨by rw [hA] at hr; rw [cell_of_row _ _ _ _ _ _ hr]; rfl, ?_, ?_, ?_, Below.refl _ _⟩, hsz, Nat.lt_trans hb hsz, HK.out.below hbw, hbw⟩
        · rw [hbw.cell (p := ⟨b, off + i * 3, none⟩) hb]; exact HC.out.1
        · rw [hbw.cell (p := ⟨b, off + i * 3 + 1, none⟩) hb]; exact HC.out.2.1
        · rw [hbw.cell (p := ⟨b, off + i * 3 + 2, none⟩) hb]; exact HC.out.2.2
      have HBX := Lib.hid hbox
      clear hbox
      by_cases hsc : Blok.scr B.kd B.dt = x
      · have HR := Lib.hid (show Blok.get bs x B.kd = (B.dt, 0) from by rw [HF.out, if_neg (by simp), if_neg (by unfold Blok.made; rw [hsc, ← HS.out]; simp)])
        have HM := Lib.hid (fun w' h => made_any B.kd B.dt w' HD.out h)
        have hq := teq_yes (HS.out.trans hsc.symm)
        generalize Blok.scr B.kd B.dt = M at *
        clear HF hsc
        go_enter Tryd.func15, Tryd.ntmps15
        go_wp2_with fail
        refine (HAT.out _ (HB.out.alloc (Nat.le_refl _) _)).mono ?_; rintro e w1 ⟨rfl, h1⟩
        have HX := HBX.out _ _ rfl h1
        obtain ⟨d0, d1, d2, d3, d4⟩ := HX.out.1
        have HM2 := Lib.hid (fun w' (h : GetS w1 w.heap.size b (off + i * 3) (.slice (some ⟨b, off, none⟩) bs.length cp) B w') => (HM.out w' (HX.out.2.2.2.1.below h.2.2.2.2)).mono fun e w'' (h' : e = _ ∧ _) => (⟨h'.1, h.next HX.out.2.1 HX.out.2.2.1 h'.2⟩ : e = _ ∧ GetS w1 w.heap.size b (off + i * 3) (.slice (some ⟨b, off, none⟩) bs.length cp) B w''))
        clear h1 HM
        go_upto_region 6 with fail
        go_region_held_law (fun w' => w'.cell? ⟨w.heap.size, 1, none⟩ = some (.slice (some ⟨b, off, none⟩) bs.length cp) ∧ w'.cell? ⟨b, off + i * 3, none⟩ = some (.string (T B.sc)) ∧ w'.cell? ⟨b, off + i * 3 + 1, none⟩ = some (.int .i64 B.kd) ∧ w'.cell? ⟨b, off + i * 3 + 2, none⟩ = some (.string (T B.dt)) ∧ Below w1.heap.size w1 w')
          (first | assumption | exact ⟨d0, d1, d2, d3, d4.drew⟩)
          (first | (go_at_call 31; refine (HM2.out _ ?_).mono ?_; assumption; rintro e w' ⟨rfl, hkeep⟩))
        all_goals
          go_wp2_with fail
          go_ret2
          refine bkget_says HR.out (HX.out.2.2.2.2.trans (Below.mono ?_ HX.out.2.2.2.2.size))
          exact (‹_ ∧ _ ∧ _ ∧ _ ∧ Below w1.heap.size w1 _›).2.2.2.2
      · have HR := Lib.hid (show Blok.get bs x B.kd = ([], 34) from by rw [HF.out, if_neg (by simp), if_pos (fun h => hsc ((show B.sc = Blok.scr B.kd B.dt from congrArg Blk.sc h).symm.trans HS.out))])
        have HM := Lib.hid (fun w' h => made_any B.kd B.dt w' HD.out h)
        have hq := teq_no (fun h : B.sc = Blok.scr B.kd B.dt => hsc (h.symm.trans HS.out))
        generalize Blok.scr B.kd B.dt = M at *
        clear HF hsc
        go_enter Tryd.func15, Tryd.ntmps15
        go_wp2_with fail
        refine (HAT.out _ (HB.out.alloc (Nat.le_refl _) _)).mono ?_; rintro e w1 ⟨rfl, h1⟩
        have HX := HBX.out _ _ rfl h1
        obtain ⟨d0, d1, d2, d3, d4⟩ := HX.out.1
        have HM2 := Lib.hid (fun w' (h : GetS w1 w.heap.size b (off + i * 3) (.slice (some ⟨b, off, none⟩) bs.length cp) B w') => (HM.out w' (HX.out.2.2.2.1.below h.2.2.2.2)).mono fun e w'' (h' : e = _ ∧ _) => (⟨h'.1, h.next HX.out.2.1 HX.out.2.2.1 h'.2⟩ : e = _ ∧ GetS w1 w.heap.size b (off + i * 3) (.slice (some ⟨b, off, none⟩) bs.length cp) B w''))
        clear h1 HM
        go_upto_region 6 with fail
        go_region_held_law (fun w' => w'.cell? ⟨w.heap.size, 1, none⟩ = some (.slice (some ⟨b, off, none⟩) bs.length cp) ∧ w'.cell? ⟨b, off + i * 3, none⟩ = some (.string (T B.sc)) ∧ w'.cell? ⟨b, off + i * 3 + 1, none⟩ = some (.int .i64 B.kd) ∧ w'.cell? ⟨b, off + i * 3 + 2, none⟩ = some (.string (T B.dt)) ∧ Below w1.heap.size w1 w')
          (first | assumption | exact ⟨d0, d1, d2, d3, d4.drew⟩)
          (first | (go_at_call 31; refine (HM2.out _ ?_).mono ?_; assumption; rintro e w' ⟨rfl, hkeep⟩))
        all_goals
          go_wp2_with fail
          go_ret2
          refine bkget_says HR.out (HX.out.2.2.2.2.trans (Below.mono ?_ HX.out.2.2.2.2.size))
          exact (‹_ ∧ _ ∧ _ ∧ _ ∧ Below w1.heap.size w1 _›).2.2.2.2
    · have HR := Lib.hid (show Blok.get bs x k = ([], 1) from by rw [HF.out, if_pos hkd])
      have hq : (B.kd == k) = false := beq_eq_false_iff_ne.2 hkd
      clear HF
      go_enter Tryd.func15, Tryd.ntmps15
      go_wp2_with fail
      refine (HAT.out _ (HB.out.alloc (Nat.le_refl _) _)).mono ?_; rintro e w1 ⟨rfl, h1⟩
      have hr := after_alloc1_new h1
      have hbw := after_alloc1 h1
      have d0 : w1.cell? ⟨w.heap.size, 1, none⟩ = some (.slice (some ⟨b, off, none⟩) bs.length cp) := by rw [cell_of_row _ _ _ _ _ _ hr]; rfl
      have d1 : w1.cell? ⟨b, off + i * 3 + 1, none⟩ = some (.int .i64 B.kd) := by rw [hbw.cell (p := ⟨b, off + i * 3 + 1, none⟩) hb]; exact HC.out.2.1
      have HBW := Lib.hid hbw
      clear h1 hr hbw
      go_wp2_with fail
      go_ret2
      exact bkget_says HR.out HBW.out
end Go.Proofs.YtpcieookddpkhaaDoor
