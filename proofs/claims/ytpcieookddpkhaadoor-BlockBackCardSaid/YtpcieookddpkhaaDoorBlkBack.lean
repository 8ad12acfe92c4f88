/- The law BlockBack: it returns true. Conditions: the slice holds the given items; the 64 constants in the variable. -/
import Derived.Test.YtpcieookddpkhaaDoorBlkKeeps
import Derived.Deep.AppendLies
set_option linter.unusedVariables false
set_option linter.unusedSimpArgs false
namespace Go.Proofs.YtpcieookddpkhaaDoor
open Go.RowKit
namespace Blok
theorem keep_at : ∀ (bs : List Blk) (q j : Nat), j < (keep bs q).length → ∃ h : j < bs.length, used (bs.take j) + (39 + bs[j].dt.length) ≤ q := by
  intro bs
  induction bs with
  | nil => intro q j h; simp [keep] at h
  | cons b r ih =>
    intro q j h
    rw [keep] at h
    split at h
    · rename_i hf
      cases j with
      | zero => exact ⟨by simp, by simp [used]; omega⟩
      | succ j =>
        obtain ⟨h1, h2⟩ := ih _ _ (by simpa using h)
        refine ⟨by simp; exact h1, ?_⟩
        rw [List.take_succ_cons, used]
        simp only [List.getElem_cons_succ]
        omega
    · simp at h
theorem keep_end : ∀ (bs : List Blk) (q : Nat), (keep bs q).length = bs.length ∨ ∃ h : (keep bs q).length < bs.length, q < used (bs.take (keep bs q).length) + (39 + bs[(keep bs q).length].dt.length) := by
  intro bs
  induction bs with
  | nil => intro q; exact .inl rfl
  | cons b r ih =>
    intro q
    by_cases hf : 39 + b.dt.length ≤ q
    · have e : keep (b :: r) q = b :: keep r (q - (39 + b.dt.length)) := by rw [keep, if_pos hf]
      rcases ih (q - (39 + b.dt.length)) with h | ⟨h1, h2⟩
      · exact .inl (by rw [e]; simp [h])
      · refine .inr ⟨by rw [e]; simpa using h1, ?_⟩
        simp only [e, List.length_cons, List.take_succ_cons, used, List.getElem_cons_succ]
        omega
    · have e : keep (b :: r) q = [] := by rw [keep, if_neg hf]
      refine .inr ⟨by rw [e]; simp, ?_⟩
      simp only [e, List.length_nil, List.take_zero, used, List.getElem_cons_zero]
      omega
theorem keep_le (bs : List Blk) (q : Nat) : (keep bs q).length ≤ bs.length := by
  rcases keep_end bs q with h | ⟨h, _⟩ <;> omega
end Blok
/-- The two boxes. -/
def BkSt (w W : World) (g g2 : Nat) (C : Int) (v : Value) (bs : List Blk) (v2 : Value) (bs2 : List Blk) : Prop :=
  KpSt w W g C v bs (.slice none 0 0) [] ∧ BoxSt g2 C v2 bs2 W ∧ w.heap.size ≤ g2 ∧ g ≠ g2
theorem BkSt.next {w W W' : World} {g g2 : Nat} {C : Int} {v : Value} {bs : List Blk} {v2 : Value} {bs2 : List Blk} (h : BkSt w W g g2 C v bs v2 bs2) (hb : Below W.heap.size W W') : BkSt w W' g g2 C v bs v2 bs2 :=
  ⟨h.1.next hb, h.2.1.next hb, h.2.2.1, h.2.2.2⟩
theorem BkSt.start {w W W' : World} {g base : Nat} {C : Int} {v : Value} {bs : List Blk} {v2 : Value} {bs2 : List Blk} (h : KpSt w W g C v bs (.slice none 0 0) []) (hb : Below W.heap.size W W') (hown : W'.ownsRow base 49 3 v2 bs2.length (bcs bs2)) :
    BkSt w (W'.alloc (.cells #[.int .i64 C, v2] 24)) g W'.heap.size C v bs v2 bs2 :=
  ⟨(h.next hb).next ((Below.refl _ _).alloc (Nat.le_refl _) _), BoxSt.start hown, (h.next hb).2.2.2.size, Nat.ne_of_lt (row_lt (h.next hb).1.1)⟩
theorem BkSt.store {w W : World} {g g2 base : Nat} {C : Int} {v : Value} {bs : List Blk} {v2 v3 : Value} {bs2 bs3 : List Blk} (h : BkSt w W g g2 C v bs v2 bs2) (hown : W.ownsRow base 49 3 v3 bs3.length (bcs bs3)) :
    BkSt w ((W.setCell ⟨g2, 0, none⟩ (.int .i64 C)).setCell ⟨g2, 1, none⟩ v3) g g2 C v bs v3 bs3 :=
  ⟨h.1.setz h.2.1.1 h.2.2.2 h.2.2.1 _ _, h.2.1.store hown, h.2.2.1, h.2.2.2⟩
theorem BkSt.reads {w W : World} {g g2 : Nat} {C : Int} {v : Value} {bs : List Blk} {v2 : Value} {bs2 : List Blk} (h : BkSt w W g g2 C v bs v2 bs2) :
    (W.cell? ⟨g, 0, none⟩ = some (.int .i64 C) ∧ W.cell? ⟨g, 1, none⟩ = some v) ∧ W.cell? ⟨g2, 0, none⟩ = some (.int .i64 C) ∧ W.cell? ⟨g2, 1, none⟩ = some v2 ∧ W.frozen? ⟨g2, 0, none⟩ = false ∧ W.frozen? ⟨g2, 1, none⟩ = false :=
  ⟨⟨h.1.1.reads.1, h.1.1.reads.2.1⟩, h.2.1.reads⟩
set_option maxRecDepth 20000 in
set_option maxHeartbeats 4000000 in
theorem back_T (most : Int) (v0 : Value) (l : List Itm) (cut : Int) (w : World) (hv : Itms w v0 l) (hl : l.length ≤ 9223372036854775807) (hK : KIn w) :
    Calls Tryd.prog 7 #[.int .i64 most, v0, .int .i64 cut] w fun e w' => e = .returned (.bool true) ∧ Below w.heap.size w w' := by
  obtain ⟨ao, cp, rfl, hcp, hcell⟩ := hv
  have HB := Lib.hid (Below.refl w.heap.size w)
  have HC := Lib.hid hcell
  have HAL := Lib.hid (fun (W : World) (h : Below w.heap.size w W) => (alive_any W (hK.below h)).mono fun e w' (h' : e = _ ∧ Below W.heap.size W w') => (⟨h'.1, bnext h h'.2⟩ : e = .returned (.bool true) ∧ Below w.heap.size w w'))
  have HKK := Lib.hid (fun (W : World) (h : Below w.heap.size w W) => hK.below h)
  have HN := Lib.hid (fun w => new_any most w)
  have hcap := Blok.capOf_ge most
  have HLA := Lib.hid (fun (bs : List Blk) (h1 : Blok.Wf bs) (h2 : (bs.length : Int) ≤ Blok.capOf most) => Blok.load_all bs most h1 h2)
  have HLC := Lib.hid (fun (bs : List Blk) (q : Nat) (h1 : Blok.Wf bs) (h2 : (bs.length : Int) ≤ Blok.capOf most) => Blok.load_log bs most q h1 h2)
  generalize Blok.capOf most = C at *
  clear hcell hK
  rcases Nat.lt_or_ge 20 l.length with hd2 | hd2
  · have hdi : (20 : Int) < l.length := by omega
    go_enter Tryd.func7, Tryd.ntmps7
    go_wp2_with fail
    refine (HAL.out _ HB.out).mono ?_; rintro e w2 ⟨rfl, hs2⟩
    have HB2 := Lib.hid hs2
    clear hs2
    go_wp2_with fail
    go_ret
    exact ⟨rfl, HB2.out⟩
  have hdi : (l.length : Int) ≤ 20 := by omega
  go_enter Tryd.func7, Tryd.ntmps7
  go_wp2_with fail
  refine (HN.out _).mono ?_; rintro e w1 ⟨rfl, b1⟩
  have HST0 : Hid (KpSt w (w1.alloc (.cells #[.int .i64 C, .slice none 0 0] 24)) w1.heap.size C (.slice none 0 0) [] (.slice none 0 0) []) := ⟨BoxSt.start (base := 0) (World.ownsRow_nil _ _ _ _), World.ownsRow_nil _ _ _ _, b1.size, b1.alloc b1.size _⟩
  clear b1 HN
  go_wp2_with fail
  go_loopw [23] (fun i wr => ∃ (k : Nat) (v : Value) (bs : List Blk), i = .int .i64 (k : Int) ∧ k ≤ l.length ∧ Hid (Blok.Wf bs ∧ (bs.length : Int) ≤ C ∧ bs.length ≤ k) ∧ Hid (KpSt w wr w1.heap.size C v bs (.slice none 0 0) [])) (fun i _ => l.length - (intOf i).toNat)
  case atStart => exact ⟨0, _, [], rfl, Nat.zero_le _, ⟨Blok.wf_nil, by simp; omega, Nat.le_refl _⟩, HST0⟩
  case round =>
    obtain ⟨k, v, bs, rfl, hk, HI, HST⟩ := hrel
    have hbl : bs.length ≤ k := HI.out.2.2
    obtain ⟨ra, rc, rfl⟩ := HST.out.1.slice
    by_cases hlt : k < l.length
    · obtain ⟨x1, o1, rfl, l1, c0, c1⟩ := HC.out k hlt
      obtain ⟨r1, r2, r3, r4, _⟩ := KpR.mk HST.out l1 c0 c1
      rcases Nat.lt_or_ge 2000 l[k].dt.length with hd | hd
      · have hdi2 : (2000 : Int) < l[k].dt.length := by omega
        go_wp2_with fail
        refine (HAL.out _ HST.out.2.2.2).mono ?_; rintro e w2 ⟨rfl, hs2⟩
        have HB2 := Lib.hid hs2
        clear hs2
        go_wp2_with fail
        go_ret
        exact ⟨rfl, HB2.out⟩
      have hdi2 : (l[k].dt.length : Int) ≤ 2000 := by omega
      have HIS := Lib.hid (Blok.wf_put (cap := C) l[k].kd l[k].dt HI.out.1 HI.out.2.1)
      have HSTd := Lib.hid (HST.out.next (below_drewN (Below.refl _ _) 1))
      have HPU := Lib.hid ((bput_own C (.slice ra bs.length rc) bs l[k].kd l[k].dt wr.drew (show Blks (wr.drewN 1) _ _ from HSTd.out.1.blks) (by omega) (by omega) (HKK.out (wr.drewN 1) HSTd.out.2.2.2)).mono fun e w' (h' : BkPutOwn C (Blok.put C bs l[k].kd l[k].dt) wr.drew e w') =>
        (show ∃ a2 c2, e = .returned (.tuple #[.agg #[.int .i64 C, .slice a2 (Blok.put C bs l[k].kd l[k].dt).1.length c2], .string (T (Blok.put C bs l[k].kd l[k].dt).2.1), .int .i64 (Blok.put C bs l[k].kd l[k].dt).2.2]) ∧ Hid (KpSt w ((w'.setCell ⟨w1.heap.size, 0, none⟩ (.int .i64 C)).setCell ⟨w1.heap.size, 1, none⟩ (.slice a2 (Blok.put C bs l[k].kd l[k].dt).1.length c2)) w1.heap.size C (.slice a2 (Blok.put C bs l[k].kd l[k].dt).1.length c2) (Blok.put C bs l[k].kd l[k].dt).1 (.slice none 0 0) []) ∧
          w'.cell? ⟨w1.heap.size, 0, none⟩ = some (.int .i64 C) ∧ w'.cell? ⟨w1.heap.size, 1, none⟩ = some (.slice ra bs.length rc) ∧ w'.frozen? ⟨w1.heap.size, 0, none⟩ = false ∧ w'.frozen? ⟨w1.heap.size, 1, none⟩ = false from by
            obtain ⟨v2, e1, e2, e3⟩ := h'
            obtain ⟨a2, c2, rfl⟩ := own_slice e2
            have hn : KpSt w w' w1.heap.size C (.slice ra bs.length rc) bs (.slice none 0 0) [] := HSTd.out.next e3
            exact ⟨a2, c2, e1, hn.store e2, hn.1.reads.1, hn.1.reads.2.1, hn.1.reads.2.2.1, hn.1.reads.2.2.2⟩))
      generalize Blok.put C bs l[k].kd l[k].dt = P at *
      obtain ⟨bs2, x, E⟩ := P
      simp only [] at HPU HIS
      have hii : (k : Int) < l.length := by omega
      go_upto_region 9 with fail
      go_region_law (go_simp; go_at_call 23; refine HPU.out.mono ?_; rintro e w' ⟨a2, c2, rfl, hkp, z1, z2, z3, z4⟩)
      all_goals
        go_wp2_with fail
        go_roundw
        case rel => exact ⟨k + 1, _, bs2, by go_num, by omega, ⟨HIS.out.1, HIS.out.2.1, by have := HIS.out.2.2.1; omega⟩, hkp⟩
        case measure => simp [intOf]; omega
    · obtain ⟨hw, hc, hb⟩ := HI.out
      have hfair := Blok.wf_fair hw
      have hbs : bs.length ≤ 20 := by omega
      have hnr : bs.length ≤ rc := by obtain ⟨_, _, e, h, _⟩ := HST.out.1.blks; cases e; exact h
      have HD6 := Lib.hid (show ∀ j (h : j < bs.length), bs[j].dt.length ≤ 1000000 from fun j h => by have := (hfair _ (List.getElem_mem h)).2.2.1; omega)
      have HLOG := Lib.hid (fun (W : World) (h : Blks W (.slice ra bs.length rc) bs) => log_any C (.slice ra bs.length rc) bs W h (by omega) hfair)
      have HUS := Lib.hid (fun (W : World) (h : Blks W (.slice ra bs.length rc) bs) => used_any C (.slice ra bs.length rc) bs W h (by omega) HD6.out)
      have HLL := Lib.hid (Blok.log_length hfair)
      have hus : Blok.used bs ≤ 30000 := by have := Blok.used_short hfair; omega
      have HL1 := Lib.hid (fun (W : World) (hb : Below w.heap.size w W) => load_own (Blok.log bs) most W (by rw [HLL.out]; omega) (HKK.out W hb))
      rw [HLA.out bs hw hc] at HL1
      unfold BkLoadOwn at HL1
      have HL2 := Lib.hid (fun (q : Nat) (W : World) (hb : Below w.heap.size w W) => (show Calls Tryd.prog 25 #[.string (T ((Blok.log bs).take q)), .int .i64 most] W (BkLoadOwn (C, bs.take (Blok.keep bs q).length, (Blok.used (bs.take (Blok.keep bs q).length) : Int), 0) W) from by
        have h1 := load_own ((Blok.log bs).take q) most W (by rw [List.length_take, HLL.out]; omega) (HKK.out W hb)
        have h2 := HLC.out bs q hw hc
        rw [h2] at h1
        have h3 := Blok.keep_take bs q
        generalize (Blok.keep bs q).length = m at *
        rw [h3] at h1
        exact h1))
      unfold BkLoadOwn at HL2
      have HKA := Lib.hid (fun (q j : Nat) => Blok.keep_at bs q j)
      have HKE := Lib.hid (fun (q : Nat) => Blok.keep_end bs q)
      have HKL := Lib.hid (fun (q : Nat) => Blok.keep_le bs q)
      have HUT := Lib.hid (fun (j : Nat) (h : j < bs.length) => Blok.used_take bs j h)
      have HUL := Lib.hid (show ∀ j, Blok.used (bs.take j) ≤ 30000 from fun j => by
        have h1 := Blok.used_short (bs := bs.take j) (fun b hb => hfair b (List.mem_of_mem_take hb))
        have h2 : (bs.take j).length ≤ 20 := by rw [List.length_take]; omega
        omega)
      have HFA := Lib.hid hfair
      clear hw hc hb hfair HLA HLC HC
      generalize Blok.log bs = L at *
      generalize Blok.used bs = U at *
      obtain ⟨r1, r2, r3, r4⟩ := HST.out.1.reads
      go_wp2_with fail
      refine (HLOG.out _ HST.out.1.blks).mono ?_; rintro e w2 ⟨rfl, b2⟩
      have HST2 := Lib.hid (HST.out.next b2)
      clear b2 r1 r2 r3 r4
      go_wp2_with fail
      refine (HL1.out _ HST2.out.2.2.2).mono ?_; rintro e w3 ⟨v3, rfl, own3, b3⟩
      obtain ⟨a3, c3, rfl⟩ := own_slice own3
      have HBK := Lib.hid (BkSt.start HST2.out b3 own3)
      clear own3 b3
      go_upto_region 13 with fail
      generalize w3.heap.size = g2 at *
      generalize w3.alloc (.cells #[.int .i64 C, .slice a3 bs.length c3] 24) = W3 at *
      obtain ⟨⟨r1, r2⟩, r3, r4, r5, r6⟩ := HBK.out.reads
      have hLU : L.length = U := HLL.out
      go_wp2_with fail
      refine (HUS.out _ HBK.out.1.1.blks).mono ?_; rintro e w4 ⟨rfl, b4⟩
      have HBK4 := Lib.hid (HBK.out.next b4)
      clear b4 r1 r2 r3 r4 r5 r6
      obtain ⟨⟨r1, r2⟩, r3, r4, r5, r6⟩ := HBK4.out.reads
      have HSA := Lib.hid (same_any C (.slice a3 bs.length c3) bs C (.slice ra bs.length rc) bs w4 HBK4.out.2.1.blks HBK4.out.1.1.blks (by omega) (by omega))
      rw [Blok.same_yes] at HSA
      go_wp2_with fail
      refine HSA.out.mono ?_; rintro e w5 ⟨rfl, b5⟩
      have HBK5 := Lib.hid (HBK4.out.next b5)
      clear b5 r1 r2 r3 r4 r5 r6 HSA
      go_upto_region 15 with fail
      rcases Int.lt_or_le cut 0 with hc0 | hc0
      · go_wp2_with fail
        refine (HAL.out _ HBK5.out.1.2.2.2).mono ?_; rintro e w6 ⟨rfl, hs6⟩
        have HB6 := Lib.hid hs6
        clear hs6
        go_wp2_with fail
        go_ret
        exact ⟨rfl, HB6.out⟩
      rcases Int.lt_or_le (U : Int) cut with hc1 | hc1
      · go_wp2_with fail
        refine (HAL.out _ HBK5.out.1.2.2.2).mono ?_; rintro e w6 ⟨rfl, hs6⟩
        have HB6 := Lib.hid hs6
        clear hs6
        go_wp2_with fail
        go_ret
        exact ⟨rfl, HB6.out⟩
      obtain ⟨q, rfl⟩ := Int.eq_ofNat_of_zero_le hc0
      have hqL : q ≤ L.length := by omega
      have hx := extract_list L 0 q
      rw [List.drop_zero, Nat.sub_zero] at hx
      have HL3 := Lib.hid (HL2.out q)
      have HKA1 := Lib.hid (HKA.out q)
      have HKE1 := HKE.out q
      have hm := HKL.out q
      clear HL2 HKA HKE HKL
      generalize L.take q = Lq at *
      generalize hmm : (Blok.keep bs q).length = m at *
      clear hmm
      go_wp2_with fail
      refine (HL3.out _ HBK5.out.1.2.2.2).mono ?_; rintro e w6 ⟨v6, rfl, own6, b6⟩
      obtain ⟨a6, n6, c6, rfl⟩ : ∃ a n c, v6 = .slice a n c := by obtain ⟨a, c, e⟩ := own_slice own6; exact ⟨a, _, c, e⟩
      have hb6 := HBK5.out.next b6
      obtain ⟨⟨r1, r2⟩, r3, r4, r5, r6⟩ := hb6.reads
      have HBK6 := Lib.hid (hb6.store own6)
      clear hb6 own6 b6
      go_upto_region 18 with fail
      generalize (w6.setCell ⟨g2, 0, none⟩ (.int .i64 C)).setCell ⟨g2, 1, none⟩ (.slice a6 n6 c6) = W6 at *
      clear r1 r2 r3 r4 r5 r6 hx
      have hmi : (m : Int) ≤ rc := by omega
      have hm0 : (0 : Int) ≤ (m : Int) := by omega
      have HSA2 := Lib.hid (fun (W : World) (h : W.cell? ⟨w1.heap.size, 0, none⟩ = some (.int .i64 C) ∧ W.cell? ⟨w1.heap.size, 1, none⟩ = some (.slice ra bs.length rc) ∧ W.cell? ⟨g2, 0, none⟩ = some (.int .i64 C) ∧ W.cell? ⟨g2, 1, none⟩ = some (.slice a6 n6 c6) ∧ BkSt w W w1.heap.size g2 C (.slice ra bs.length rc) bs (.slice a6 n6 c6) (bs.take m)) =>
        (same_any C (.slice a6 n6 c6) (bs.take m) C (.slice ra m rc) (bs.take m) W h.2.2.2.2.2.1.blks (h.2.2.2.2.1.1.blks.take m hm) (by rw [List.length_take]; omega) (by rw [List.length_take]; omega)).mono fun e w' (h' : e = .returned (.bool (Blok.same C (bs.take m) C (bs.take m))) ∧ Below W.heap.size W w') => (show e = .returned (.bool true) ∧ (w'.cell? ⟨w1.heap.size, 0, none⟩ = some (.int .i64 C) ∧ w'.cell? ⟨w1.heap.size, 1, none⟩ = some (.slice ra bs.length rc) ∧ w'.cell? ⟨g2, 0, none⟩ = some (.int .i64 C) ∧ w'.cell? ⟨g2, 1, none⟩ = some (.slice a6 n6 c6) ∧ BkSt w w' w1.heap.size g2 C (.slice ra bs.length rc) bs (.slice a6 n6 c6) (bs.take m)) from by
          have hn := h.2.2.2.2.next h'.2
          obtain ⟨⟨q1, q2⟩, q3, q4, _, _⟩ := hn.reads
          exact ⟨by rw [h'.1, Blok.same_yes], q1, q2, q3, q4, hn⟩))
      have HAL2 := Lib.hid (fun (W : World) (h : W.cell? ⟨w1.heap.size, 0, none⟩ = some (.int .i64 C) ∧ W.cell? ⟨w1.heap.size, 1, none⟩ = some (.slice ra bs.length rc) ∧ W.cell? ⟨g2, 0, none⟩ = some (.int .i64 C) ∧ W.cell? ⟨g2, 1, none⟩ = some (.slice a6 n6 c6) ∧ BkSt w W w1.heap.size g2 C (.slice ra bs.length rc) bs (.slice a6 n6 c6) (bs.take m)) =>
        (alive_any W (HKK.out W h.2.2.2.2.1.2.2.2)).mono fun e w' (h' : e = .returned (.bool true) ∧ Below W.heap.size W w') => (show e = .returned (.bool true) ∧ (w'.cell? ⟨w1.heap.size, 0, none⟩ = some (.int .i64 C) ∧ w'.cell? ⟨w1.heap.size, 1, none⟩ = some (.slice ra bs.length rc) ∧ w'.cell? ⟨g2, 0, none⟩ = some (.int .i64 C) ∧ w'.cell? ⟨g2, 1, none⟩ = some (.slice a6 n6 c6) ∧ BkSt w w' w1.heap.size g2 C (.slice ra bs.length rc) bs (.slice a6 n6 c6) (bs.take m)) from by
          have hn := h.2.2.2.2.next h'.2
          obtain ⟨⟨q1, q2⟩, q3, q4, _, _⟩ := hn.reads
          exact ⟨h'.1, q1, q2, q3, q4, hn⟩))
      go_wp2_with fail
      go_loopw [13, 14] (fun a b wr2 => ∃ j : Nat, j ≤ m ∧ a = .int .i64 (j : Int) ∧ b = .int .i64 (Blok.used (bs.take j) : Nat) ∧ Hid (BkSt w wr2 w1.heap.size g2 C (.slice ra bs.length rc) bs (.slice a6 n6 c6) (bs.take m))) (fun a _ _ => m - (intOf a).toNat)
      case atStart => exact ⟨0, Nat.zero_le _, rfl, rfl, HBK6⟩
      case round =>
        obtain ⟨j, hj, rfl, rfl, HBR⟩ := hrel
        obtain ⟨⟨r1, r2⟩, r3, r4, _, _⟩ := HBR.out.reads
        have hul := HUL.out j
        by_cases hjm : j < m
        · obtain ⟨hjl, hle⟩ := HKA1.out j hjm
          have hut := HUT.out j hjl
          obtain ⟨x2, o2, rfl, l2, c0, c1, c2⟩ := HBR.out.1.1.blks.at.2 j hjl
          have hji : (j : Int) < bs.length := by omega
          generalize hUj : Blok.used (bs.take j) = Uj at *
          have hdd : bs[j].dt.length ≤ 30000 := by omega
          have s1 : (39 : Int) + bs[j].dt.length ≤ 100000 := by omega
          have s2 : (Uj : Int) + 39 ≤ 100000 := by omega
          have s3 : (Uj : Int) + 39 + bs[j].dt.length ≤ 100000 := by omega
          have s4 : (Uj : Int) + (39 + bs[j].dt.length) ≤ 100000 := by omega
          have s5 : (Uj : Int) + 39 + bs[j].dt.length ≤ q := by omega
          clear hUj
          go_wp2_with fail
          go_roundw
          case rel => exact ⟨j + 1, by omega, by go_num, by rw [hut]; go_num, HBR⟩
          case measure => simp [intOf]; omega
        · obtain rfl : j = m := by omega
          rcases HKE1 with hke | ⟨hkl, hkq⟩
          · have hji : ¬ (j : Int) < bs.length := by omega
            clear hke
            generalize Blok.used (bs.take j) = Uj at *
            cases ra with
            | none =>
              have h0 : bs = [] ∧ rc = 0 := by
                obtain ⟨_, _, e, h1, h2, _⟩ := HBR.out.1.1.blks
                cases e
                have := h2 rfl
                exact ⟨List.eq_nil_of_length_eq_zero (by omega), this⟩
              obtain ⟨rfl, rfl⟩ := h0
              obtain rfl : j = 0 := by have h1 : j ≤ 0 := hm; omega
              have HBd := Lib.hid (HBR.out.next (below_drewN (Below.refl _ _) 1))
              go_upto_region 22 with fail
              go_region_held_law (fun w' => w'.cell? ⟨w1.heap.size, 0, none⟩ = some (.int .i64 C) ∧ w'.cell? ⟨w1.heap.size, 1, none⟩ = some (.slice none ([] : List Blk).length 0) ∧ w'.cell? ⟨g2, 0, none⟩ = some (.int .i64 C) ∧ w'.cell? ⟨g2, 1, none⟩ = some (.slice a6 n6 c6) ∧ BkSt w w' w1.heap.size g2 C (.slice none ([] : List Blk).length 0) [] (.slice a6 n6 c6) (List.take 0 [])) (first | assumption | exact ⟨r1, r2, r3, r4, HBd.out⟩) (first | (go_at_call 10; with_reducible refine (HSA2.out _ (by assumption)).mono ?_; rintro e w' ⟨rfl, hkeep⟩) | (go_at_call 9; with_reducible refine (HAL2.out _ (by assumption)).mono ?_; rintro e w' ⟨rfl, hkeep⟩))
              all_goals
                have HBZ := Lib.hid hkeep.2.2.2.2.1.2.2.2
                clear hkeep r1 r2 r3 r4
                go_wp2_with fail
                go_ret
                exact ⟨rfl, HBZ.out⟩
            | some A =>
              obtain ⟨x2, o2, sp⟩ := A
              have HBd := Lib.hid (HBR.out.next (below_drewN (Below.refl _ _) 1))
              go_upto_region 22 with fail
              go_region_held_law (fun w' => w'.cell? ⟨w1.heap.size, 0, none⟩ = some (.int .i64 C) ∧ w'.cell? ⟨w1.heap.size, 1, none⟩ = some (.slice (some ⟨x2, o2, sp⟩) bs.length rc) ∧ w'.cell? ⟨g2, 0, none⟩ = some (.int .i64 C) ∧ w'.cell? ⟨g2, 1, none⟩ = some (.slice a6 n6 c6) ∧ BkSt w w' w1.heap.size g2 C (.slice (some ⟨x2, o2, sp⟩) bs.length rc) bs (.slice a6 n6 c6) (bs.take j)) (first | assumption | exact ⟨r1, r2, r3, r4, HBd.out⟩) (first | (go_at_call 10; with_reducible refine (HSA2.out _ (by assumption)).mono ?_; rintro e w' ⟨rfl, hkeep⟩) | (go_at_call 9; with_reducible refine (HAL2.out _ (by assumption)).mono ?_; rintro e w' ⟨rfl, hkeep⟩))
              all_goals
                have HBZ := Lib.hid hkeep.2.2.2.2.1.2.2.2
                clear hkeep r1 r2 r3 r4
                go_wp2_with fail
                go_ret
                exact ⟨rfl, HBZ.out⟩
          · obtain ⟨x2, o2, rfl, l2, c0, c1, c2⟩ := HBR.out.1.1.blks.at.2 j hkl
            have hji : (j : Int) < bs.length := by omega
            have hdd := (HFA.out _ (List.getElem_mem hkl)).2.2.1
            generalize Blok.used (bs.take j) = Uj at *
            have s2 : (Uj : Int) + 39 ≤ 100000 := by omega
            have s3 : (Uj : Int) + 39 + bs[j].dt.length ≤ 100000 := by omega
            have s5 : (q : Int) < (Uj : Int) + 39 + bs[j].dt.length := by omega
            have s6 : decide ((Uj : Int) + 39 + (bs[j].dt.length : Int) ≤ (q : Int)) = false := decide_eq_false (by omega)
            generalize bs[j] = Bj at *
            clear hkq hdd hul hm hj hmi hm0 s5
            have hm1 : (0 : Int) ≤ (j : Int) := by omega
            have hm2 : (j : Int) ≤ rc := by omega
            have HBd := Lib.hid (HBR.out.next (below_drewN (Below.refl _ _) 1))
            go_upto_region 22 with fail
            go_region_held_law (fun w' => w'.cell? ⟨w1.heap.size, 0, none⟩ = some (.int .i64 C) ∧ w'.cell? ⟨w1.heap.size, 1, none⟩ = some (.slice (some ⟨x2, o2, none⟩) bs.length rc) ∧ w'.cell? ⟨g2, 0, none⟩ = some (.int .i64 C) ∧ w'.cell? ⟨g2, 1, none⟩ = some (.slice a6 n6 c6) ∧ BkSt w w' w1.heap.size g2 C (.slice (some ⟨x2, o2, none⟩) bs.length rc) bs (.slice a6 n6 c6) (bs.take j)) (first | assumption | exact ⟨r1, r2, r3, r4, HBd.out⟩) (first | (go_at_call 10; with_reducible refine (HSA2.out _ (by assumption)).mono ?_; rintro e w' ⟨rfl, hkeep⟩) | (go_at_call 9; with_reducible refine (HAL2.out _ (by assumption)).mono ?_; rintro e w' ⟨rfl, hkeep⟩))
            all_goals
              have HBZ := Lib.hid hkeep.2.2.2.2.1.2.2.2
              clear hkeep r1 r2 r3 r4
              go_wp2_with fail
              go_ret
              exact ⟨rfl, HBZ.out⟩
end Go.Proofs.YtpcieookddpkhaaDoor
