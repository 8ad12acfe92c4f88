/- Descriptions; look-ups in a client's calls. Conditions: those that each theorem names. -/
import Derived.Test.YtfibaopngpfmjaaGreatDoorRzD1
import Derived.Test.YtfibaopngpfmjaaGreatDoorRzC1
import Derived.Deep.MidRow
set_option linter.unusedVariables false
set_option linter.unusedSimpArgs false
set_option maxRecDepth 100000
set_option maxHeartbeats 8000000
namespace Go.Proofs.YtfibaopngpfmjaaGreatDoor
open Go.RowKit Go.Proofs
theorem within_any (n b : Int) (w : World) : Calls Tryz.prog 198 #[.int .i64 n, .int .i64 b] w (SayB (Within n b) w) := by
  have HW := lh (show Within n b ↔ (n = -1 ∨ (0 ≤ n ∧ bits .andNot .i64 n b = 0)) from Iff.rfl)
  generalize Within n b = Q at *
  go_enter Tryz.func198, Tryz.ntmps198
  by_cases h1 : n = -1
  · subst h1
    have HF := lh (HW.out.2 (Or.inl rfl))
    clear HW
    go_wp2_with fail
    go_ret
    exact sayT HF.out
  have k1 : (n == -1) = false := by simp [h1]
  by_cases h2 : 0 ≤ n
  rotate_left
  · have k2 : decide (0 ≤ n) = false := decide_eq_false h2
    have HF := lh (show ¬ Q from by rw [HW.out]; omega)
    clear HW h1
    go_wp2_with fail
    go_ret
    exact sayF HF.out
  by_cases h3 : bits .andNot .i64 n b = 0
  · have HF := lh (HW.out.2 (Or.inr ⟨h2, h3⟩))
    have k3 : (bits .andNot .i64 n b == 0) = true := by simp [h3]
    clear HW h1
    go_wp2_with fail
    go_ret
    exact sayT HF.out
  · have HF := lh (show ¬ Q from by rw [HW.out]; intro h; rcases h with h | h; exact h1 h; exact h3 h.2)
    have k3 : (bits .andNot .i64 n b == 0) = false := by simp [h3]
    clear HW h1
    go_wp2_with fail
    go_ret
    exact sayF HF.out
/-- The slice of the numbers of a description. -/
def NumsAt (w : World) (v : Value) (m : Mg) : Prop := ∃ b, v = .slice (some ⟨b, 0, none⟩) 9 9 ∧ b < w.heap.size ∧ ∀ j (h : j < (dnums m).length), w.cell? ⟨b, j * 3, none⟩ = some (.int .i64 (dnums m)[j].1) ∧ w.cell? ⟨b, j * 3 + 1, none⟩ = some (.int .i64 ((dnums m)[j].2.1 : Int)) ∧ w.cell? ⟨b, j * 3 + 2, none⟩ = some (.int .i64 (dnums m)[j].2.2)
theorem NumsAt.below {w w' : World} {v : Value} {m : Mg} (h : NumsAt w v m) (hb : Below w.heap.size w w') : NumsAt w' v m := by
  obtain ⟨b, hv, hlt, hc⟩ := h
  exact ⟨b, hv, Nat.lt_of_lt_of_le hlt hb.size, fun j hj => ⟨cell_below hb hlt (hc j hj).1, cell_below hb hlt (hc j hj).2.1, cell_below hb hlt (hc j hj).2.2⟩⟩
theorem dnums_len (m : Mg) : (dnums m).length = 9 := rfl
theorem numsAt_of {w : World} {b : Nat} {m : Mg} {t : TypeId} {fr : Nat × Nat} (h : w.heap[b]? = some (.cells #[.int .i64 m.st, .int .i64 2, .int .i64 65534, .int .i64 m.sd, .int .i64 4, .int .i64 4294967294, .int .i64 m.s0, .int .i64 1, .int .i64 232, .int .i64 m.s1, .int .i64 4, .int .i64 2147483647, .int .i64 m.s2, .int .i64 8, .int .i64 1099511627776, .int .i64 m.sm, .int .i64 4, .int .i64 3892314623, .int .i64 m.sat, .int .i64 8, .int .i64 1099511627776, .int .i64 m.smt, .int .i64 8, .int .i64 1099511627776, .int .i64 m.sl, .int .i64 8, .int .i64 9007199254740991] t fr)) : NumsAt w (.slice (some ⟨b, 0, none⟩) 9 9) m := by
  refine ⟨b, rfl, row_ltP h, fun j hj => ?_⟩
  rw [dnums_len] at hj
  have : j = 0 ∨ j = 1 ∨ j = 2 ∨ j = 3 ∨ j = 4 ∨ j = 5 ∨ j = 6 ∨ j = 7 ∨ j = 8 := by omega
  rcases this with rfl | rfl | rfl | rfl | rfl | rfl | rfl | rfl | rfl
  all_goals exact ⟨by rw [Lib.cell_of_heap h]; rfl, by rw [Lib.cell_of_heap h]; rfl, by rw [Lib.cell_of_heap h]; rfl⟩
theorem numbers_any (m : Mg) (w : World) : Calls Tryz.prog 197 #[.agg m.ds.toArray] w fun e w' => ∃ v, e = .returned v ∧ NumsAt w' v m ∧ Below w.heap.size w w' := by
  have HB := lh (fun o o2 => bnext (alloc_below w o) (alloc_below _ o2))
  have HN := lh (fun (W : World) (b : Nat) h => numsAt_of (w := W) (b := b) (m := m) (t := 250) (fr := (0, 0)) h)
  unfold Mg.ds
  go_enter Tryz.func197, Tryz.ntmps197
  go_upto_region 1 with fail
  go_wp2_with fail
  go_ret
  refine ⟨_, rfl, HN.out _ _ ?_, HB.out _ _⟩
  rw [show w.heap.size + 1 = (w.alloc _).heap.size from by simp]
  exact heap_alloc_new _ _
theorem retE {p : Prop} {w w' : World} (k : Int) (hk : k ≠ 0) (hp : ¬ p) (h : Below w.heap.size w w') : RetI (fun e => e = 0 ↔ p) w (.returned (.int .i64 k)) w' := ⟨k, rfl, ⟨fun e => absurd e hk, fun e => absurd e hp⟩, h⟩
theorem retZ {p : Prop} {w w' : World} (hp : p) (h : Below w.heap.size w w') : RetI (fun e => e = 0 ↔ p) w (.returned (.int .i64 0)) w' := ⟨0, rfl, ⟨fun _ => hp, fun _ => rfl⟩, h⟩
/-- What stat.Check reads of its own copy. -/
theorem ds_cells {W : World} {g : Nat} {m : Mg} {t : TypeId} {fr : Nat × Nat} (h : W.heap[g]? = some (.cells m.ds.toArray t fr)) : W.cell? ⟨g, 2, none⟩ = some (.int .i64 m.s0) ∧ W.cell? ⟨g, 5, none⟩ = some (.int .i64 m.sm) ∧ W.cell? ⟨g, 9, none⟩ = some (.string (T m.sn)) ∧ W.cell? ⟨g, 10, none⟩ = some (.string (T m.su)) ∧ W.cell? ⟨g, 11, none⟩ = some (.string (T m.sg)) ∧ W.cell? ⟨g, 12, none⟩ = some (.string (T m.smu)) := by
  refine ⟨?_, ?_, ?_, ?_, ?_, ?_⟩ <;> (rw [Lib.cell_of_heap h]; rfl)
theorem dcheck_any (m : Mg) (hs : m.sn.length ≤ 1000000000000000000) (w : World) : Calls Tryz.prog 145 #[.agg m.ds.toArray] w (RetI (fun e => e = 0 ↔ DirOk m) w) := by
  have HB := lh (alloc_below w (.cells m.ds.toArray 46))
  have H1 := lh (heap_alloc_new w (.cells m.ds.toArray 46))
  have HC := lh (fun (W : World) (h : W.heap[w.heap.size]? = some (.cells m.ds.toArray 46)) => ds_cells h)
  have HN := lh (fun W => numbers_any m W)
  have HW0 := lh (fun W => within_any m.s0 232 W)
  have HW1 := lh (fun W => within_any m.sm 3892314623 W)
  have HV := lh (fun W => pvalid_any m.sn W hs)
  have HQ := lh (show DirOk m ↔ (∀ j (h : j < (dnums m).length), -1 ≤ (dnums m)[j].1 ∧ (dnums m)[j].1 ≤ (dnums m)[j].2.2) ∧ (Within m.s0 232 ∧ Within m.sm 3892314623) ∧ (m.sn = [] ∨ m.sn = [47] ∨ NameOk m.sn) ∧ (m.su.length ≤ 64 ∧ m.sg.length ≤ 64 ∧ m.smu.length ≤ 64) from
    ⟨fun h => ⟨fun j hj => h.1 _ (List.getElem_mem hj), h.2⟩, fun h => ⟨fun x hx => by obtain ⟨j, hj, rfl⟩ := List.getElem_of_mem hx; exact h.1 j hj, h.2⟩⟩)
  have hlen := dnums_len m
  clear hs
  have HU := lh (Tryz.underlying46)
  have HSZ : RowKit.Hid ((Tryz.prog.info? 46).map (·.size) = some m.ds.toArray.size) := lh (by show _ = some 13; kernel_rfl)
  generalize DirOk m = Q at *
  generalize Within m.s0 232 = P0 at *
  generalize Within m.sm 3892314623 = P1 at *
  generalize NameOk m.sn = PN at *
  unfold NumsAt at HN
  generalize dnums m = nu at *
  generalize m.ds = ds at *
  generalize m.s0 = s0 at *
  generalize m.sm = sm at *
  generalize m.sn = sn at *
  generalize m.su = su at *
  generalize m.sg = sg at *
  generalize m.smu = smu at *
  go_enter Tryz.func145, Tryz.ntmps145
  go_upto_region 1 with fail
  generalize World.alloc _ _ = w1 at *
  go_wp2_with (refine wpList_load_row rfl 46 _ rfl w.heap.size rfl 46 ds.toArray (0, 0) _ H1.out HU.out rfl HSZ.out ?_)
  (with_reducible refine (HN.out _).mono ?_); rintro e w2 ⟨v, rfl, ⟨b, rfl, hb, hcell⟩, b2⟩
  have H2 := lh ((b2.block _ (row_ltP H1.out)).trans H1.out)
  have HB2 := lh (bnext HB.out b2)
  have HNC := lh hcell
  clear b2 hcell H1 HB HN
  go_wp2_with fail
  go_loopg [8] 9 (fun k s W => ∃ j : Nat, j ≤ 9 ∧ s = .int .i64 (j : Int) ∧ (W.heap[w.heap.size]? = some (.cells ds.toArray 46) ∧ Below w.heap.size w W ∧ Below w2.heap.size w2 W ∧ (∀ i (h : i < nu.length), i < j → -1 ≤ nu[i].1 ∧ nu[i].1 ≤ nu[i].2.2)) ∧ k = 9 - j)
  case atStart => exact ⟨0, by omega, rfl, ⟨H2.out, HB2.out, Below.refl _ _, fun i h hj => by omega⟩, rfl⟩
  case round =>
    obtain ⟨j, hj, rfl, ⟨hst, hbb, hb2, hok⟩, hk⟩ := hrel
    have H3 := lh hst
    have HB3 := lh hbb
    have HB4 := lh hb2
    have HO := lh hok
    have HK := lh hk
    clear hst hbb hb2 hok hk H2 HB2
    by_cases hlt : j < 9
    · have hki : (j : Int) < 9 := by omega
      have hjl : j < nu.length := by omega
      obtain ⟨d0, d1, d2⟩ := HNC.out j hjl
      have d0 := cell_below HB4.out hb d0
      have d1 := cell_below HB4.out hb d1
      have d2 := cell_below HB4.out hb d2
      have HNO := lh (fun (he : ¬ (-1 ≤ nu[j].1 ∧ nu[j].1 ≤ nu[j].2.2)) => show ¬ Q from fun hq => he ((HQ.out.1 hq).1 j hjl))
      have HNX := lh (fun (he : -1 ≤ nu[j].1 ∧ nu[j].1 ≤ nu[j].2.2) => show ∀ i (h : i < nu.length), i < j + 1 → -1 ≤ nu[i].1 ∧ nu[i].1 ≤ nu[i].2.2 from fun i hi hij => by
        rcases Nat.lt_or_ge i j with h | h
        · exact HO.out i hi h
        · obtain rfl : i = j := by omega
          exact he)
      clear HNC HQ
      generalize nu[j].1 = x at *
      generalize nu[j].2.1 = y at *
      generalize nu[j].2.2 = z at *
      go_upto_region 4 with fail
      have ba := alloc_below wr (.cells #[.int .i64 x, .int .i64 (y : Int), .int .i64 z] 250)
      have H5 := lh ((ba.block _ (row_ltP H3.out)).trans H3.out)
      have HB5 := lh (bnext HB3.out ba)
      have HB6 := lh (bnext HB4.out ba)
      clear ba
      by_cases h1 : x < -1
      · have HF := lh (HNO.out (by omega))
        clear HNO HNX
        go_wp2_with fail
        go_ret
        exact retE _ (by omega) HF.out HB5.out
      have k1 : decide (x < -1) = false := decide_eq_false h1
      by_cases h2 : z < x
      · have HF := lh (HNO.out (by omega))
        clear HNO HNX
        go_wp2_with fail
        go_ret
        exact retE _ (by omega) HF.out HB5.out
      have k2 : decide (z < x) = false := decide_eq_false h2
      have HF := lh (HNX.out (by omega))
      clear HNO HNX h1 h2
      go_wp2_with fail
      have hk := HK.out
      go_roundg (9 - (j + 1))
      case measure => omega
      case rel => exact ⟨j + 1, by omega, by go_num, ⟨H5.out, HB5.out, HB6.out, HF.out⟩, rfl⟩
    · obtain rfl : j = 9 := by omega
      have HA := lh (fun i (h : i < nu.length) => HO.out i h (by omega))
      clear HO HK HNC HB4
      obtain ⟨c2, c5, c9, c10, c11, c12⟩ := HC.out _ H3.out
      clear H3 HC
      go_wp2_with fail
      (with_reducible refine (HW0.out _).mono ?_); rintro e wx ⟨p0, rfl, hp0, rfl⟩
      cases p0 with
      | false =>
        have HF := lh (show ¬ Q from fun h => nomatch hp0.2 (HQ.out.1 h).2.1.1)
        clear hp0
        go_wp2_with fail
        go_ret
        exact retE _ (by omega) HF.out HB3.out
      | true =>
        have HP0 := lh (hp0.1 rfl)
        clear hp0
        go_wp2_with fail
        (with_reducible refine (HW1.out _).mono ?_); rintro e wx ⟨p1, rfl, hp1, rfl⟩
        cases p1 with
        | false =>
          have HF := lh (show ¬ Q from fun h => nomatch hp1.2 (HQ.out.1 h).2.1.2)
          clear hp1
          go_wp2_with fail
          go_ret
          exact retE _ (by omega) HF.out HB3.out
        | true =>
          have HP1 := lh (hp1.1 rfl)
          clear hp1
          have HQ2 := lh (show Q ↔ (sn = [] ∨ sn = [47] ∨ PN) ∧ su.length ≤ 64 ∧ sg.length ≤ 64 ∧ smu.length ≤ 64 from ⟨fun h => (HQ.out.1 h).2.2, fun h => HQ.out.2 ⟨HA.out, ⟨HP0.out, HP1.out⟩, h⟩⟩)
          clear HQ HA HP0 HP1 HW0 HW1
          by_cases e0 : sn = []
          · have HQ3 := lh (show Q ↔ su.length ≤ 64 ∧ sg.length ≤ 64 ∧ smu.length ≤ 64 from by rw [HQ2.out]; simp [e0])
            clear HQ2 HV
            subst e0
            by_cases l0 : su.length ≤ 64 ∧ sg.length ≤ 64 ∧ smu.length ≤ 64
            · have HF := lh (HQ3.out.2 l0)
              go_wp2_with fail
              all_goals (go_ret; first | exact retZ HF.out HB3.out | (exfalso; omega))
            · have HF := lh (fun h => l0 (HQ3.out.1 h))
              go_wp2_with fail
              all_goals (go_ret; first | exact retE _ (by omega) HF.out HB3.out | (exfalso; omega))
          by_cases e1 : sn = [47]
          · have HQ3 := lh (show Q ↔ su.length ≤ 64 ∧ sg.length ≤ 64 ∧ smu.length ≤ 64 from by rw [HQ2.out]; simp [e1])
            clear HQ2 HV e0
            subst e1
            by_cases l0 : su.length ≤ 64 ∧ sg.length ≤ 64 ∧ smu.length ≤ 64
            · have HF := lh (HQ3.out.2 l0)
              go_wp2_with fail
              all_goals (go_ret; first | exact retZ HF.out HB3.out | (exfalso; omega))
            · have HF := lh (fun h => l0 (HQ3.out.1 h))
              go_wp2_with fail
              all_goals (go_ret; first | exact retE _ (by omega) HF.out HB3.out | (exfalso; omega))
          have k0 : (!sn.isEmpty) = true := by cases sn; exact absurd rfl e0; rfl
          have k1 : (sn != [47]) = true := by simp [e1]
          go_wp2_with fail
          (with_reducible refine (HV.out _).mono ?_); rintro e wx ⟨pn, rfl, hpn, rfl⟩
          cases pn with
          | false =>
            have HF := lh (show ¬ Q from fun h => by rcases (HQ2.out.1 h).1 with h | h | h; exact e0 h; exact e1 h; exact nomatch hpn.2 h)
            clear hpn HQ2 HV
            go_wp2_with fail
            go_ret
            exact retE _ (by omega) HF.out HB3.out
          | true =>
            have HQ3 := lh (show Q ↔ su.length ≤ 64 ∧ sg.length ≤ 64 ∧ smu.length ≤ 64 from by rw [HQ2.out]; simp [hpn.1 rfl])
            clear hpn HQ2 HV
            by_cases l0 : su.length ≤ 64 ∧ sg.length ≤ 64 ∧ smu.length ≤ 64
            · have HF := lh (HQ3.out.2 l0)
              go_wp2_with fail
              all_goals (go_ret; first | exact retZ HF.out HB3.out | (exfalso; omega))
            · have HF := lh (fun h => l0 (HQ3.out.1 h))
              go_wp2_with fail
              all_goals (go_ret; first | exact retE _ (by omega) HF.out HB3.out | (exfalso; omega))
/-- A call that waits: its message, its flusher, the message's lists. -/
structure Cll where
  m : Mg
  fl : Int
  ns : List (List UInt8)
  qs : List (Int × Int × Int)
/-- A slice of calls in memory. -/
def Clls (w : World) (v : Value) (l : List Cll) : Prop :=
  ∃ ao cap, v = .slice ao l.length cap ∧ l.length ≤ cap ∧ (ao = none → cap = 0) ∧ ∀ j (h : j < l.length), ∃ b off, ao = some ⟨b, off, none⟩ ∧ b < w.heap.size ∧ w.rangeAt b (off + j * 40) (l[j].m.cs ++ [.int .i64 l[j].fl]) ∧ MgIn w l[j].m l[j].ns l[j].qs
theorem Clls.below {w w' : World} {v : Value} {l : List Cll} (h : Clls w v l) (hb : Below w.heap.size w w') : Clls w' v l := by
  obtain ⟨ao, cap, hv, hc, hn, hcell⟩ := h
  refine ⟨ao, cap, hv, hc, hn, fun j h => ?_⟩
  obtain ⟨b, off, ha, hlt, c0, c1⟩ := hcell j h
  exact ⟨b, off, ha, Nat.lt_of_lt_of_le hlt hb.size, fun i u hu => cell_below hb hlt (c0 i u hu), c1.below hb⟩
theorem call_tag {w : World} {b off : Nat} {c : Cll} (h : w.rangeAt b off (c.m.cs ++ [.int .i64 c.fl])) : w.cell? ⟨b, off + 1, none⟩ = some (.int .i64 c.m.tag) := h 1 _ rfl
/-- A place in a list of n, or -1, is returned, the world as it was. -/
def IxSay (n : Nat) (w : World) (e : Ending) (w' : World) : Prop := ∃ k, e = .returned (.int .i64 k) ∧ (-1 ≤ k ∧ k < n) ∧ w' = w
theorem ixSay {n : Nat} {w : World} (k : Int) (h : -1 ≤ k ∧ k < n) : IxSay n w (.returned (.int .i64 k)) w := ⟨k, rfl, h, rfl⟩
theorem rindex_any (v : Value) (l : List Cll) (t : Int) (w : World) (hv : Clls w v l) (hl : l.length ≤ 1000000) : Calls Tryz.prog 60 #[v, .int .i64 t] w (IxSay l.length w) := by
  obtain ⟨ao, cap, rfl, hc, hnn, hcell⟩ := hv
  have HCE := lh hcell
  clear hcell hnn
  go_enter Tryz.func60, Tryz.ntmps60
  go_wp2_with fail
  go_loop [5] (fun i => ∃ k : Nat, k ≤ l.length ∧ i = .int .i64 (k : Int)) (fun i => l.length - (intOf i).toNat)
  case atStart => exact ⟨0, by omega, rfl⟩
  case round =>
    obtain ⟨k, hk, rfl⟩ := hrel
    by_cases hlt : k < l.length
    · obtain ⟨b, off, rfl, hbl, cc, _⟩ := HCE.out k hlt
      have hki : (k : Int) < l.length := by omega
      have c1 := call_tag cc
      clear cc
      generalize l[k].m.tag = tg at *
      by_cases ht : tg = t
      · subst ht
        go_wp2_with fail
        go_ret
        exact ixSay _ ⟨by omega, hki⟩
      · have hte : (tg == t) = false := by simp [ht]
        go_wp2_with fail
        go_round
        case rel => exact ⟨k + 1, by omega, by go_num⟩
        case measure => simp [intOf]; omega
    · obtain rfl : k = l.length := by omega
      go_wp2_with fail
      go_ret
      exact ixSay _ ⟨by omega, by omega⟩
theorem call_cells {w : World} {b off : Nat} {c : Cll} (h : w.rangeAt b off (c.m.cs ++ [.int .i64 c.fl])) : w.cell? ⟨b, off, none⟩ = some (.int .i64 c.m.kind) ∧ w.cell? ⟨b, off + 1, none⟩ = some (.int .i64 c.m.tag) ∧ w.cell? ⟨b, off + 5, none⟩ = some (.int .i64 c.m.oldTag) ∧ w.cell? ⟨b, off + 39, none⟩ = some (.int .i64 c.fl) := ⟨h 0 _ rfl, h 1 _ rfl, h 5 _ rfl, h 39 _ rfl⟩
theorem rflush_any (v : Value) (l : List Cll) (t : Int) (w : World) (hv : Clls w v l) (hl : l.length ≤ 1000000) : Calls Tryz.prog 61 #[v, .int .i64 t] w (SameI w) := by
  obtain ⟨ao, cap, rfl, hc, hnn, hcell⟩ := hv
  have HCE := lh hcell
  clear hcell hnn
  go_enter Tryz.func61, Tryz.ntmps61
  go_wp2_with fail
  go_loop [5] (fun i => ∃ k : Nat, k ≤ l.length ∧ i = .int .i64 (k : Int)) (fun i => l.length - (intOf i).toNat)
  case atStart => exact ⟨0, by omega, rfl⟩
  case round =>
    obtain ⟨k, hk, rfl⟩ := hrel
    by_cases hlt : k < l.length
    · obtain ⟨b, off, rfl, hbl, cc, _⟩ := HCE.out k hlt
      have hki : (k : Int) < l.length := by omega
      obtain ⟨c0, c1, c5, _⟩ := call_cells cc
      clear cc
      generalize l[k].m.tag = tg at *
      generalize l[k].m.kind = kd at *
      generalize l[k].m.oldTag = og at *
      go_wp2_with fail
      all_goals (first
        | (go_ret; exact sameI _)
        | (go_round
           case rel => exact ⟨k + 1, by omega, by go_num⟩
           case measure => simp [intOf]; omega))
    · obtain rfl : k = l.length := by omega
      go_wp2_with fail
      go_ret
      exact sameI _
/-- The cells of a call. -/
def Cll.cs (c : Cll) : List Value := c.m.cs ++ [.int .i64 c.fl]
theorem Cll.reads {W : World} {g : Nat} {c : Cll} {t : TypeId} {fr : Nat × Nat} (h : W.heap[g]? = some (.cells c.cs.toArray t fr)) : W.cell? ⟨g, 0, none⟩ = some (.int .i64 c.m.kind) ∧ W.cell? ⟨g, 1, none⟩ = some (.int .i64 c.m.tag) ∧ W.cell? ⟨g, 5, none⟩ = some (.int .i64 c.m.oldTag) :=
  ⟨by rw [Lib.cell_of_heap h]; rfl, by rw [Lib.cell_of_heap h]; rfl, by rw [Lib.cell_of_heap h]; rfl⟩
theorem retB2 {p : Prop} {w w' : World} (b : Bool) (h : b = true ↔ p) (hb : Below w.heap.size w w') : RetB (fun r => r = true ↔ p) w (.returned (.bool b)) w' := ⟨b, rfl, h, hb⟩
theorem ix1_any (c : Cll) (b : Nat) (t : Int) (w : World) (hb : w.cell? ⟨b, 0, none⟩ = some (.int .i64 t)) : Calls Tryz.prog 124 #[.agg c.cs.toArray, .pointer (some ⟨b, 0, none⟩)] w (RetB (fun r => r = true ↔ c.m.tag = t) w) := by
  have hbl := block_lt_of_cell hb
  have HB := lh (alloc_below w (.cells c.cs.toArray 82))
  have h1 := (Cll.reads (heap_alloc_new w (.cells c.cs.toArray 82))).2.1
  have h2 := cell_below HB.out hbl hb
  generalize c.cs.toArray = cs at *
  generalize c.m.tag = x at *
  clear hb
  go_enter Tryz.func124, Tryz.ntmps124
  go_upto_region 1 with fail
  generalize World.alloc _ _ = w1 at *
  by_cases e : x = t
  · subst e
    go_wp2_with fail
    go_ret
    exact ⟨_, rfl, by simp, HB.out⟩
  · have k1 : (x == t) = false := by simp [e]
    go_wp2_with fail
    go_ret
    exact ⟨_, rfl, by simp [e], HB.out⟩
theorem ix2_any (c : Cll) (b : Nat) (t : Int) (w : World) (hb : w.cell? ⟨b, 0, none⟩ = some (.int .i64 t)) : Calls Tryz.prog 125 #[.agg c.cs.toArray, .pointer (some ⟨b, 0, none⟩)] w (RetB (fun r => r = true ↔ (c.m.kind = 108 ∧ c.m.oldTag = t)) w) := by
  have hbl := block_lt_of_cell hb
  have HB := lh (alloc_below w (.cells c.cs.toArray 82))
  obtain ⟨h0, h1, h5⟩ := Cll.reads (heap_alloc_new w (.cells c.cs.toArray 82))
  have h2 := cell_below HB.out hbl hb
  generalize c.cs.toArray = cs at *
  generalize c.m.oldTag = x at *
  generalize c.m.kind = kd at *
  clear hb h1
  go_enter Tryz.func125, Tryz.ntmps125
  go_upto_region 1 with fail
  generalize World.alloc _ _ = w1 at *
  by_cases e0 : kd = 108
  rotate_left
  · have k1 : (kd == 108) = false := by simp [e0]
    go_wp2_with fail
    go_ret
    exact ⟨_, rfl, by simp [e0], HB.out⟩
  subst e0
  by_cases e : x = t
  · subst e
    go_wp2_with fail
    go_ret
    exact ⟨_, rfl, by simp, HB.out⟩
  · have k1 : (x == t) = false := by simp [e]
    go_wp2_with fail
    go_ret
    exact ⟨_, rfl, by simp [e], HB.out⟩
theorem ix3_any (c : Cll) (w : World) : Calls Tryz.prog 66 #[.agg c.cs.toArray] w (RetB (fun r => r = true ↔ c.m.kind = 100) w) := by
  have HB := lh (alloc_below w (.cells c.cs.toArray 82))
  have h0 := (Cll.reads (heap_alloc_new w (.cells c.cs.toArray 82))).1
  generalize c.cs.toArray = cs at *
  generalize c.m.kind = kd at *
  go_enter Tryz.func66, Tryz.ntmps66
  go_upto_region 1 with fail
  generalize World.alloc _ _ = w1 at *
  by_cases e0 : kd = 100
  · subst e0
    go_wp2_with fail
    go_ret
    exact ⟨_, rfl, by simp, HB.out⟩
  · have k1 : (kd == 100) = false := by simp [e0]
    go_wp2_with fail
    go_ret
    exact ⟨_, rfl, by simp [e0], HB.out⟩
/-- A place, or -1. -/
def IdxSay (p : Cll → Prop) (l : List Cll) (w : World) (e : Ending) (w' : World) : Prop :=
  ∃ k, e = .returned (.int .i64 k) ∧ ((k = -1 ∧ ∀ j (h : j < l.length), ¬ p l[j]) ∨ ∃ j, ∃ h : j < l.length, k = (j : Int) ∧ p l[j]) ∧ Below w.heap.size w w'
theorem idxNo {p : Cll → Prop} {l : List Cll} {w w' : World} (h : ∀ j (h : j < l.length), ¬ p l[j]) (hb : Below w.heap.size w w') : IdxSay p l w (.returned (.int .i64 (-1))) w' := ⟨-1, rfl, Or.inl ⟨rfl, h⟩, hb⟩
theorem idxAt {p : Cll → Prop} {l : List Cll} {w w' : World} (j : Nat) (h : j < l.length) (hp : p l[j]) (hb : Below w.heap.size w w') : IdxSay p l w (.returned (.int .i64 (j : Int))) w' := ⟨j, rfl, Or.inr ⟨j, h, rfl, hp⟩, hb⟩
theorem call_size2 (c : Cll) : (Tryz.prog.info? 82).map (·.size) = some c.cs.length := by show _ = some 40; kernel_rfl
theorem idxf1 (v : Value) (l : List Cll) (p : Cll → Prop) (b : Nat) (w : World) (hv : Clls w v l) (hl : l.length ≤ 1000000)
    (hf : ∀ (c : Cll) (W : World), Below w.heap.size w W → Calls Tryz.prog 124 #[.agg c.cs.toArray, .pointer (some ⟨b, 0, none⟩)] W (RetB (fun r => r = true ↔ p c) W)) :
    Calls Tryz.prog 123 #[v, .func (.func 124) #[] #[.pointer (some ⟨b, 0, none⟩)]] w (IdxSay p l w) := by
  obtain ⟨ao, cap, rfl, hc, hnn, hcell⟩ := hv
  have HCE := lh hcell
  have HF := lh hf
  have HU := lh (Tryz.underlying82)
  have HSZ := lh (fun c : Cll => call_size2 c)
  clear hcell hnn hf
  go_enter Tryz.func123, Tryz.ntmps123
  go_wp2_with fail
  go_loopg [8] l.length (fun k i W => ∃ j : Nat, j ≤ l.length ∧ i = .int .i64 (j : Int) ∧ (Below w.heap.size w W ∧ ∀ i (h : i < l.length), i < j → ¬ p l[i]) ∧ k = l.length - j)
  case atStart => exact ⟨0, by omega, rfl, ⟨Below.refl _ _, fun i h hi => by omega⟩, rfl⟩
  case round =>
    obtain ⟨j, hj, rfl, ⟨hbb, hno⟩, hk⟩ := hrel
    have HB := lh hbb
    have HN := lh hno
    have HK := lh hk
    clear hbb hno hk
    by_cases hlt : j < l.length
    · obtain ⟨bk, off, rfl, hbl, cc, _⟩ := HCE.out j hlt
      have hki : (j : Int) < l.length := by omega
      have hr : wr.rangeAt bk (off + j * 40) l[j].cs := fun i u hu => cell_below HB.out hbl (cc i u hu)
      have HX := lh (fun (hp : ¬ p l[j]) => show ∀ i (h : i < l.length), i < j + 1 → ¬ p l[i] from fun i hi hij => by
        rcases Nat.lt_or_ge i j with h | h
        · exact HN.out i hi h
        · obtain rfl : i = j := by omega
          exact hp)
      have HA := lh (fun (W : World) (hp : p l[j]) (hb : Below w.heap.size w W) => idxAt j hlt hp hb)
      have HFJ := lh (HF.out l[j] wr HB.out)
      have HSJ := lh (HSZ.out l[j])
      clear cc HCE HF HN HSZ
      generalize l[j].cs = cs at *
      generalize p l[j] = pj at *
      go_wp2_with (refine wpList_load_mid rfl 82 _ rfl bk (off + j * 40) rfl cs _ hr HU.out rfl HSJ.out ?_)
      (with_reducible refine HFJ.out.mono ?_); rintro e w2 ⟨r, rfl, hpr, b2⟩
      have HB2 := lh (bnext HB.out b2)
      have HPR := lh hpr
      clear b2 hpr hr HFJ
      cases r with
      | true =>
        have hpj : pj := HPR.out.1 rfl
        go_wp2_with fail
        go_ret
        exact HA.out _ hpj HB2.out
      | false =>
        have hpj := HX.out (fun h => nomatch HPR.out.2 h)
        have HPJ := lh hpj
        clear hpj HPR HX HA
        go_wp2_with fail
        have hk := HK.out
        go_roundg (l.length - (j + 1))
        case measure => omega
        case rel => exact ⟨j + 1, by omega, by go_num, ⟨HB2.out, HPJ.out⟩, rfl⟩
    · obtain rfl : j = l.length := by omega
      have HN2 := lh (fun i (h : i < l.length) => HN.out i h h)
      clear HN HCE HF
      go_wp2_with fail
      go_ret
      exact idxNo HN2.out HB.out
theorem idxf2 (v : Value) (l : List Cll) (p : Cll → Prop) (b : Nat) (w : World) (hv : Clls w v l) (hl : l.length ≤ 1000000)
    (hf : ∀ (c : Cll) (W : World), Below w.heap.size w W → Calls Tryz.prog 125 #[.agg c.cs.toArray, .pointer (some ⟨b, 0, none⟩)] W (RetB (fun r => r = true ↔ p c) W)) :
    Calls Tryz.prog 123 #[v, .func (.func 125) #[] #[.pointer (some ⟨b, 0, none⟩)]] w (IdxSay p l w) := by
  obtain ⟨ao, cap, rfl, hc, hnn, hcell⟩ := hv
  have HCE := lh hcell
  have HF := lh hf
  have HU := lh (Tryz.underlying82)
  have HSZ := lh (fun c : Cll => call_size2 c)
  clear hcell hnn hf
  go_enter Tryz.func123, Tryz.ntmps123
  go_wp2_with fail
  go_loopg [8] l.length (fun k i W => ∃ j : Nat, j ≤ l.length ∧ i = .int .i64 (j : Int) ∧ (Below w.heap.size w W ∧ ∀ i (h : i < l.length), i < j → ¬ p l[i]) ∧ k = l.length - j)
  case atStart => exact ⟨0, by omega, rfl, ⟨Below.refl _ _, fun i h hi => by omega⟩, rfl⟩
  case round =>
    obtain ⟨j, hj, rfl, ⟨hbb, hno⟩, hk⟩ := hrel
    have HB := lh hbb
    have HN := lh hno
    have HK := lh hk
    clear hbb hno hk
    by_cases hlt : j < l.length
    · obtain ⟨bk, off, rfl, hbl, cc, _⟩ := HCE.out j hlt
      have hki : (j : Int) < l.length := by omega
      have hr : wr.rangeAt bk (off + j * 40) l[j].cs := fun i u hu => cell_below HB.out hbl (cc i u hu)
      have HX := lh (fun (hp : ¬ p l[j]) => show ∀ i (h : i < l.length), i < j + 1 → ¬ p l[i] from fun i hi hij => by
        rcases Nat.lt_or_ge i j with h | h
        · exact HN.out i hi h
        · obtain rfl : i = j := by omega
          exact hp)
      have HA := lh (fun (W : World) (hp : p l[j]) (hb : Below w.heap.size w W) => idxAt j hlt hp hb)
      have HFJ := lh (HF.out l[j] wr HB.out)
      have HSJ := lh (HSZ.out l[j])
      clear cc HCE HF HN HSZ
      generalize l[j].cs = cs at *
      generalize p l[j] = pj at *
      go_wp2_with (refine wpList_load_mid rfl 82 _ rfl bk (off + j * 40) rfl cs _ hr HU.out rfl HSJ.out ?_)
      (with_reducible refine HFJ.out.mono ?_); rintro e w2 ⟨r, rfl, hpr, b2⟩
      have HB2 := lh (bnext HB.out b2)
      have HPR := lh hpr
      clear b2 hpr hr HFJ
      cases r with
      | true =>
        have hpj : pj := HPR.out.1 rfl
        go_wp2_with fail
        go_ret
        exact HA.out _ hpj HB2.out
      | false =>
        have hpj := HX.out (fun h => nomatch HPR.out.2 h)
        have HPJ := lh hpj
        clear hpj HPR HX HA
        go_wp2_with fail
        have hk := HK.out
        go_roundg (l.length - (j + 1))
        case measure => omega
        case rel => exact ⟨j + 1, by omega, by go_num, ⟨HB2.out, HPJ.out⟩, rfl⟩
    · obtain rfl : j = l.length := by omega
      have HN2 := lh (fun i (h : i < l.length) => HN.out i h h)
      clear HN HCE HF
      go_wp2_with fail
      go_ret
      exact idxNo HN2.out HB.out
theorem idxf3 (v : Value) (l : List Cll) (p : Cll → Prop) (w : World) (hv : Clls w v l) (hl : l.length ≤ 1000000)
    (hf : ∀ (c : Cll) (W : World), Below w.heap.size w W → Calls Tryz.prog 66 #[.agg c.cs.toArray] W (RetB (fun r => r = true ↔ p c) W)) :
    Calls Tryz.prog 123 #[v, .func (.func 66) #[] #[]] w (IdxSay p l w) := by
  obtain ⟨ao, cap, rfl, hc, hnn, hcell⟩ := hv
  have HCE := lh hcell
  have HF := lh hf
  have HU := lh (Tryz.underlying82)
  have HSZ := lh (fun c : Cll => call_size2 c)
  clear hcell hnn hf
  go_enter Tryz.func123, Tryz.ntmps123
  go_wp2_with fail
  go_loopg [8] l.length (fun k i W => ∃ j : Nat, j ≤ l.length ∧ i = .int .i64 (j : Int) ∧ (Below w.heap.size w W ∧ ∀ i (h : i < l.length), i < j → ¬ p l[i]) ∧ k = l.length - j)
  case atStart => exact ⟨0, by omega, rfl, ⟨Below.refl _ _, fun i h hi => by omega⟩, rfl⟩
  case round =>
    obtain ⟨j, hj, rfl, ⟨hbb, hno⟩, hk⟩ := hrel
    have HB := lh hbb
    have HN := lh hno
    have HK := lh hk
    clear hbb hno hk
    by_cases hlt : j < l.length
    · obtain ⟨bk, off, rfl, hbl, cc, _⟩ := HCE.out j hlt
      have hki : (j : Int) < l.length := by omega
      have hr : wr.rangeAt bk (off + j * 40) l[j].cs := fun i u hu => cell_below HB.out hbl (cc i u hu)
      have HX := lh (fun (hp : ¬ p l[j]) => show ∀ i (h : i < l.length), i < j + 1 → ¬ p l[i] from fun i hi hij => by
        rcases Nat.lt_or_ge i j with h | h
        · exact HN.out i hi h
        · obtain rfl : i = j := by omega
          exact hp)
      have HA := lh (fun (W : World) (hp : p l[j]) (hb : Below w.heap.size w W) => idxAt j hlt hp hb)
      have HFJ := lh (HF.out l[j] wr HB.out)
      have HSJ := lh (HSZ.out l[j])
      clear cc HCE HF HN HSZ
      generalize l[j].cs = cs at *
      generalize p l[j] = pj at *
      go_wp2_with (refine wpList_load_mid rfl 82 _ rfl bk (off + j * 40) rfl cs _ hr HU.out rfl HSJ.out ?_)
      (with_reducible refine HFJ.out.mono ?_); rintro e w2 ⟨r, rfl, hpr, b2⟩
      have HB2 := lh (bnext HB.out b2)
      have HPR := lh hpr
      clear b2 hpr hr HFJ
      cases r with
      | true =>
        have hpj : pj := HPR.out.1 rfl
        go_wp2_with fail
        go_ret
        exact HA.out _ hpj HB2.out
      | false =>
        have hpj := HX.out (fun h => nomatch HPR.out.2 h)
        have HPJ := lh hpj
        clear hpj HPR HX HA
        go_wp2_with fail
        have hk := HK.out
        go_roundg (l.length - (j + 1))
        case measure => omega
        case rel => exact ⟨j + 1, by omega, by go_num, ⟨HB2.out, HPJ.out⟩, rfl⟩
    · obtain rfl : j = l.length := by omega
      have HN2 := lh (fun i (h : i < l.length) => HN.out i h h)
      clear HN HCE HF
      go_wp2_with fail
      go_ret
      exact idxNo HN2.out HB.out
theorem pindex_any (v : Value) (l : List Cll) (t : Int) (w : World) (hv : Clls w v l) (hl : l.length ≤ 1000000) : Calls Tryz.prog 69 #[v, .int .i64 t] w (IdxSay (fun c => c.m.tag = t) l w) := by
  have hmf : ∀ (fn : Fn) (first cap : Array Value) (w : World), (Instr.makeFunc fn first cap).run Tryz.prog w = .ok (.func fn first cap) w := fun _ _ _ _ => rfl
  have HB := lh (alloc_below w (.cells #[.int .i64 t] 3))
  have hc0 : (w.alloc (.cells #[.int .i64 t] 3)).cell? ⟨w.heap.size, 0, none⟩ = some (.int .i64 t) := by rw [Lib.cell_of_heap (heap_alloc_new w _)]; rfl
  have HI := lh (idxf1 v l (fun c => c.m.tag = t) w.heap.size (w.alloc (.cells #[.int .i64 t] 3)) (hv.below HB.out) hl (fun c W hb => ix1_any c w.heap.size t W (cell_below hb (block_lt_of_cell hc0) hc0)))
  obtain ⟨ao, cap, rfl, _⟩ := hv
  clear hc0
  go_enter Tryz.func69, Tryz.ntmps69
  go_upto_region 1 with fail
  generalize World.alloc _ _ = w1 at *
  go_wp2_with fail
  (with_reducible refine HI.out.mono ?_); rintro e w2 ⟨k, rfl, hk, b2⟩
  have HB2 := lh (bnext HB.out b2)
  have HK := lh hk
  clear b2 hk
  go_wp2_with fail
  go_ret
  exact ⟨k, rfl, HK.out, HB2.out⟩
/-- What flusher returns: another tag than 65535 only if there is a flush of that tag. -/
def FlSay (l : List Cll) (t : Int) (w : World) (e : Ending) (w' : World) : Prop := ∃ k, e = .returned (.int .i64 k) ∧ (k ≠ 65535 → ∃ j, ∃ h : j < l.length, l[j].m.oldTag = t) ∧ Below w.heap.size w w'
theorem pflush_any (v : Value) (l : List Cll) (t : Int) (w : World) (hv : Clls w v l) (hl : l.length ≤ 1000000) : Calls Tryz.prog 70 #[v, .int .i64 t] w (FlSay l t w) := by
  have hmf : ∀ (fn : Fn) (first cap : Array Value) (w : World), (Instr.makeFunc fn first cap).run Tryz.prog w = .ok (.func fn first cap) w := fun _ _ _ _ => rfl
  have HB := lh (alloc_below w (.cells #[.int .i64 t] 3))
  have hc0 : (w.alloc (.cells #[.int .i64 t] 3)).cell? ⟨w.heap.size, 0, none⟩ = some (.int .i64 t) := by rw [Lib.cell_of_heap (heap_alloc_new w _)]; rfl
  have HI := lh (idxf2 v l (fun c => c.m.kind = 108 ∧ c.m.oldTag = t) w.heap.size (w.alloc (.cells #[.int .i64 t] 3)) (hv.below HB.out) hl (fun c W hb => ix2_any c w.heap.size t W (cell_below hb (block_lt_of_cell hc0) hc0)))
  obtain ⟨ao, cap, rfl, hcp, hnn, hcell⟩ := hv
  have HCE := lh hcell
  clear hc0 hcell hnn
  go_enter Tryz.func70, Tryz.ntmps70
  go_upto_region 1 with fail
  generalize World.alloc _ _ = w1 at *
  go_wp2_with fail
  (with_reducible refine HI.out.mono ?_); rintro e w2 ⟨k, rfl, hk, b2⟩
  have HB2 := lh (bnext HB.out b2)
  clear b2
  rcases hk with ⟨rfl, _⟩ | ⟨j, hj, rfl, hp⟩
  · go_wp2_with fail
    go_ret
    exact ⟨_, rfl, fun h => absurd rfl h, HB2.out⟩
  · obtain ⟨b, off, rfl, hbl, cc, _⟩ := HCE.out j hj
    have c1 := cell_below HB2.out hbl (call_tag cc)
    have hki : (j : Int) < l.length := by omega
    have HP := lh (show ∃ j, ∃ h : j < l.length, l[j].m.oldTag = t from ⟨j, hj, hp.2⟩)
    have k1 : decide ((j : Int) < 0) = false := decide_eq_false (by omega)
    clear cc HCE HI hp
    generalize l[j].m.tag = tg at *
    go_wp2_with fail
    go_ret
    exact ⟨_, rfl, fun _ => HP.out, HB2.out⟩
theorem phasv_any (v : Value) (l : List Cll) (w : World) (hv : Clls w v l) (hl : l.length ≤ 1000000) : Calls Tryz.prog 26 #[v] w (RetB (fun _ => True) w) := by
  have HI := lh (fun W (hb : Below w.heap.size w W) => idxf3 v l (fun c => c.m.kind = 100) W (hv.below hb) hl (fun c W2 _ => ix3_any c W2))
  obtain ⟨ao, cap, rfl, _⟩ := hv
  have HC := lh (show Calls Tryz.prog 65 #[.slice ao l.length cap, .func (.func 66) #[] #[]] w (RetB (fun _ => True) w) from by
    go_enter Tryz.func65, Tryz.ntmps65
    go_wp2_with fail
    (with_reducible refine (HI.out _ (Below.refl _ _)).mono ?_); rintro e w1 ⟨k, rfl, hk, b1⟩
    have HB1 := lh b1
    clear b1 hk
    go_wp2_with fail
    go_ret
    exact retB _ trivial HB1.out)
  clear HI
  go_enter Tryz.func26, Tryz.ntmps26
  go_wp2_with fail
  (with_reducible refine HC.out.mono ?_); rintro e w1 ⟨r, rfl, _, b1⟩
  have HB1 := lh b1
  clear b1
  go_wp2_with fail
  go_ret
  exact retB _ trivial HB1.out
/-- So many numbers do not fit into a shorter list. -/
theorem pigeon (N : Nat) : ∀ (S : List Int), (∀ t : Nat, 1 ≤ t → t ≤ N → (t : Int) ∈ S) → N ≤ S.length := by
  induction N with
  | zero => intro S _; omega
  | succ N ih =>
    intro S h
    have h1 := h (N + 1) (by omega) (by omega)
    have h2 := ih (S.erase ((N + 1 : Nat) : Int)) (fun t ht1 ht2 => (List.mem_erase_of_ne (by omega)).2 (h t ht1 (by omega)))
    rw [List.length_erase_of_mem h1] at h2
    have := List.length_pos_of_mem h1
    omega
def tagsOf (l : List Cll) : List Int := l.map (fun c => c.m.tag) ++ l.map (fun c => c.m.oldTag)
theorem tagsOf_len (l : List Cll) : (tagsOf l).length = 2 * l.length := by unfold tagsOf; simp; omega
theorem pfree_any (v : Value) (l : List Cll) (w : World) (hv : Clls w v l) (hl : l.length ≤ 1000) : Calls Tryz.prog 28 #[v] w (RetI (fun k => 1 ≤ k ∧ k ≤ 2 * l.length + 1) w) := by
  have HI := lh (fun (t : Int) W (hb : Below w.heap.size w W) => pindex_any v l t W (hv.below hb) (by omega))
  have HF := lh (fun (t : Int) W (hb : Below w.heap.size w W) => pflush_any v l t W (hv.below hb) (by omega))
  obtain ⟨ao, cap, rfl, _⟩ := hv
  have HPG := lh (fun (n : Nat) (h : ∀ t : Nat, 1 ≤ t → t < n + 1 → (t : Int) ∈ tagsOf l) => show n ≤ 2 * l.length from by
    have := pigeon n (tagsOf l) (fun t h1 h2 => h t h1 (by omega))
    rw [tagsOf_len] at this
    exact this)
  go_enter Tryz.func28, Tryz.ntmps28
  go_wp2_with fail
  go_loopg [3] (2 * l.length + 1) (fun k i W => ∃ n : Nat, n ≤ 2 * l.length ∧ i = .int .i64 ((n : Int) + 1) ∧ (Below w.heap.size w W ∧ ∀ t : Nat, 1 ≤ t → t < n + 1 → (t : Int) ∈ tagsOf l) ∧ k = 2 * l.length + 1 - n)
  case atStart => exact ⟨0, by omega, rfl, ⟨Below.refl _ _, fun t h1 h2 => by omega⟩, rfl⟩
  case round =>
    obtain ⟨n, hn, rfl, ⟨hbb, hall⟩, hk⟩ := hrel
    have HB := lh hbb
    have HA := lh hall
    have HK := lh hk
    clear hbb hall hk
    have HNX := lh (fun (h : ((n : Int) + 1) ∈ tagsOf l) => show (∀ t : Nat, 1 ≤ t → t < (n + 1) + 1 → (t : Int) ∈ tagsOf l) ∧ n + 1 ≤ 2 * l.length from by
      have h1 : ∀ t : Nat, 1 ≤ t → t < (n + 1) + 1 → (t : Int) ∈ tagsOf l := fun t h1 h2 => by
        rcases Nat.lt_or_ge t (n + 1) with h3 | h3
        · exact HA.out t h1 h3
        · obtain rfl : t = n + 1 := by omega
          rw [show ((n + 1 : Nat) : Int) = (n : Int) + 1 from by omega]
          exact h
      exact ⟨h1, HPG.out (n + 1) h1⟩)
    go_wp2_with fail
    have hb := HB.out
    (with_reducible refine (HI.out _ _ hb).mono ?_); rintro e w1 ⟨k, rfl, hk, b1⟩
    have HB1 := lh (bnext HB.out b1)
    clear b1 hb
    rcases hk with ⟨rfl, _⟩ | ⟨j, hj, rfl, hp⟩
    · go_wp2_with fail
      have hb := HB1.out
      (with_reducible refine (HF.out _ _ hb).mono ?_); rintro e w2 ⟨k, rfl, hk2, b2⟩
      have HB2 := lh (bnext HB1.out b2)
      clear b2 hb
      by_cases e0 : k = 65535
      · subst e0
        clear hk2
        go_wp2_with fail
        go_ret
        exact retI _ (by omega) HB2.out
      · obtain ⟨j, hj, hp⟩ := hk2 e0
        have hx := HNX.out (by
          unfold tagsOf
          rw [List.mem_append]
          exact Or.inr (by rw [← hp]; exact List.mem_map.2 ⟨l[j], List.getElem_mem hj, rfl⟩))
        have HX := lh hx
        have k1 : (k != 65535) = true := by simp [e0]
        clear e0 hp hx HNX HA
        go_wp2_with fail
        have hk := HK.out
        have h2 := HX.out.2
        go_roundg (2 * l.length + 1 - (n + 1))
        case measure => omega
        case rel => exact ⟨n + 1, h2, by go_num, ⟨HB2.out, HX.out.1⟩, rfl⟩
    · have hx := HNX.out (by
        unfold tagsOf
        rw [List.mem_append]
        exact Or.inl (by rw [← hp]; exact List.mem_map.2 ⟨l[j], List.getElem_mem hj, rfl⟩))
      have HX := lh hx
      have k1 : (0 : Int) ≤ (j : Int) := by omega
      clear hp hx HNX HA
      go_wp2_with fail
      have hk := HK.out
      have h2 := HX.out.2
      go_roundg (2 * l.length + 1 - (n + 1))
      case measure => omega
      case rel => exact ⟨n + 1, h2, by go_num, ⟨HB1.out, HX.out.1⟩, rfl⟩
end Go.Proofs.YtfibaopngpfmjaaGreatDoor
