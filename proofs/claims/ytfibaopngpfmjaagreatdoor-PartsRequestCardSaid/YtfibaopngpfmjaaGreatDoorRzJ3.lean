/- The reference's test of a client's calls. Conditions: those that each theorem names. -/
import Derived.Test.YtfibaopngpfmjaaGreatDoorRzD2
import Derived.Test.YtfibaopngpfmjaaGreatDoorRzJ1
import Derived.Test.YtfibaopngpfmjaaGreatDoorRzH1
set_option linter.unusedVariables false
set_option linter.unusedSimpArgs false
set_option maxRecDepth 100000
set_option maxHeartbeats 16000000
namespace Go.Proofs.YtfibaopngpfmjaaGreatDoor
open Go.RowKit Go.Proofs
/-- The tag of the first flush of tag t, or 65535. -/
def flv (l : List Cll) (t : Int) : Int := ((l.find? (fun c => c.m.kind == 108 && c.m.oldTag == t)).map (fun c => c.m.tag)).getD 65535
theorem flv_hit (l : List Cll) (t : Int) (k : Nat) (h : k < l.length) (hp : (l[k].m.kind == 108 && l[k].m.oldTag == t) = true) (hn : ∀ i (hi : i < l.length), i < k → (l[i].m.kind == 108 && l[i].m.oldTag == t) = false) : flv l t = l[k].m.tag := by
 unfold flv
 have e : l.find? (fun c => c.m.kind == 108 && c.m.oldTag == t) = some l[k] := List.find?_eq_some_iff_getElem.2 ⟨hp, k, h, rfl, fun j hj => by rw [hn j (by omega) hj]; rfl⟩
 rw [e]
 rfl
theorem flv_none (l : List Cll) (t : Int) (hn : ∀ i (hi : i < l.length), (l[i].m.kind == 108 && l[i].m.oldTag == t) = false) : flv l t = 65535 := by
 unfold flv
 rw [List.find?_eq_none.2 (fun x hx => by
  obtain ⟨i, hi, rfl⟩ := List.getElem_of_mem hx
  rw [hn i hi]
  simp)]
 rfl
theorem rflushP (v : Value) (l : List Cll) (t : Int) (w : World) (hv : Clls w v l) (hl : l.length ≤ 1000000) : Calls Tryz.prog 61 #[v, .int .i64 t] w fun e w' => e = .returned (.int .i64 (flv l t)) ∧ w' = w := by
 obtain ⟨ao, cap, rfl, hc, hnn, hcell⟩ := hv
 have HCE := lh hcell
 have HF1 := lh (flv_hit l t)
 have HF2 := lh (flv_none l t)
 clear hcell hnn
 generalize flv l t = fv at *
 go_enter Tryz.func61, Tryz.ntmps61
 go_wp2_with fail
 go_loop [5] (fun i => ∃ k : Nat, k ≤ l.length ∧ i = .int .i64 (k : Int) ∧ ∀ i (hi : i < l.length), i < k → (l[i].m.kind == 108 && l[i].m.oldTag == t) = false) (fun i => l.length - (intOf i).toNat)
 case atStart => exact ⟨0, by omega, rfl, fun i _ h => by omega⟩
 case round =>
  obtain ⟨k, hk, rfl, hno⟩ := hrel
  have HN := lh hno
  clear hno
  by_cases hlt : k < l.length
  ·obtain ⟨b, off, rfl, hbl, cc, _⟩ := HCE.out k hlt
   have hki : (k : Int) < l.length := by omega
   obtain ⟨c0, c1, c5, _⟩ := call_cells cc
   have HH := lh (fun h => HF1.out k hlt h HN.out)
   have HX := lh (fun (hp : (l[k].m.kind == 108 && l[k].m.oldTag == t) = false) => show ∀ i (hi : i < l.length), i < k + 1 → (l[i].m.kind == 108 && l[i].m.oldTag == t) = false from fun i hi hij => by
    rcases Nat.lt_or_ge i k with h | h
    ·exact HN.out i hi h
    ·obtain rfl : i = k := by omega
     exact hp)
   clear cc HF1 HF2 HN
   generalize l[k].m.tag = tg at *
   generalize l[k].m.kind = kd at *
   generalize l[k].m.oldTag = og at *
   by_cases h1 : kd = 108
   ·subst h1
    by_cases h2 : og = t
    ·subst h2
     have hh := HH.out (by simp)
     subst hh
     go_wp2_with fail
     go_ret
     exact ⟨rfl, rfl⟩
    ·have k2 : (og == t) = false := by simp [h2]
     go_wp2_with fail
     go_round
     case rel => exact ⟨k + 1, by omega, by go_num, HX.out (by simp [h2])⟩
     case measure => simp [intOf]; omega
   ·have k1 : (kd == 108) = false := by simp [h1]
    go_wp2_with fail
    go_round
    case rel => exact ⟨k + 1, by omega, by go_num, HX.out (by simp [h1])⟩
    case measure => simp [intOf]; omega
  ·obtain rfl : k = l.length := by omega
   have hh := HF2.out (fun i hi => HN.out i hi hi)
   subst hh
   go_wp2_with fail
   go_ret
   exact ⟨rfl, rfl⟩
/-- A load of a whole block under a guard that holds. -/
theorem wpList_load_rowG {P : Program} {ops : Array Oper} {rest : List Oper} {o : Oper} {a : Act} {w : World} {Q : Exit → Act → World → Prop} (hw : Region.wanted o (yielded ops a.tmps) = true) (ty : TypeId) (x : Operand) (ho : o.op = .load ty x)
  (g : Nat) (hx : a.eval x = .pointer (some ⟨g, 0, none⟩)) (t : TypeId) (cs : Array Value) (fr : Nat × Nat) (d : TypeDesc) (hg : w.heap[g]? = some (.cells cs t fr))
  (hu : P.underlying ty = some d) (hd : (match d with | .struct _ | .array _ _ => true | _ => false) = true) (hi : (P.info? ty).map (·.size) = some cs.size)
  (h : wpList P ops Q rest (a.put o.dst (.agg cs)) w) : wpList P ops Q (o :: rest) a w :=
 wpList_step fun K hK => by
  rw [if_pos hw]
  exact wp_load_row ty x ho g hx t cs fr d hg hu hd hi (hK _ _ h)
theorem rcalls_any (v : Value) (l : List Cll) (w : World) (hv : Clls w v l) (hl : l.length ≤ 1000000) : Calls Tryz.prog 22 #[v] w (RetB (fun _ => True) w) := by
 have HV := lh (fun (W : World) (h : Below w.heap.size w W) => hv.below h)
 have HRQ := lh (fun k W => rreq_any k W)
 have HCK := lh (fun (x : Mg) ns qs W (h : MgIn W x ns qs) => r8check_any x ns qs W h)
 have HIX := lh (fun (t : Int) (W : World) (h : Below w.heap.size w W) => rindex_any v l t W (hv.below h) hl)
 have HFL := lh (fun (t : Int) (W : World) (h : Below w.heap.size w W) => rflushP v l t W (hv.below h) hl)
 obtain ⟨ao, cap, rfl, hc, hnn, _⟩ := hv
 have HSZ := lh (fun x : Mg => mg_size x)
 have HAL := lh (fun (x : Mg) (h : x.ok) => mg_all x h)
 have HMZ := lh (show ∀ x : Mg, mg0.cs.toArray.size = x.cs.toArray.size from fun x => rfl)
 have HU := lh (Tryz.underlying48)
 clear hnn
 go_enter Tryz.func22, Tryz.ntmps22
 go_upto_region 2 with fail
 go_loopg [3] l.length (fun k s W => ∃ j : Nat, j ≤ l.length ∧ s = .int .i64 (j : Int) ∧ Below w.heap.size w W ∧ k = l.length - j)
 case atStart => exact ⟨0, Nat.zero_le _, rfl, Below.refl _ _, rfl⟩
 case round =>
  obtain ⟨j, hj, rfl, hb, hk⟩ := hrel
  have HB := lh hb
  have HK := lh hk
  clear hk
  by_cases hlt : j < l.length
  rotate_left
  ·obtain rfl : j = l.length := by omega
   clear hb
   go_wp2_with fail
   all_goals (go_ret; exact retB _ trivial HB.out)
  obtain ⟨ao2, cap2, e2, _, _, hcell⟩ := HV.out _ hb
  cases e2
  obtain ⟨bk, off, rfl, hbl, cc, hmi⟩ := hcell j hlt
  have hki : (j : Int) < l.length := by omega
  have c39 := (call_cells cc).2.2.2
  have C39 := lh (show wr.cell? ⟨bk, off + j * 40 + 39, none⟩ = some (.int .i64 l[j].fl) from c39)
  have hr : wr.rangeAt bk (off + j * 40) l[j].m.cs := fun i u hu => cc i u (by rw [List.getElem?_append_left (by have := List.getElem?_eq_some_iff.1 hu; exact this.1)]; exact hu)
  have HMI := lh hmi
  clear hcell cc c39 hmi hb
  generalize hm : l[j].m = m at *
  generalize l[j].ns = ns at *
  generalize l[j].qs = qs at *
  have HS1 := lh (HSZ.out m)
  have HA1 := lh (HAL.out m HMI.out.ok)
  have HM1 := lh (HMZ.out m)
  have hz := heap_alloc_new wr (.cells mg0.cs.toArray 48)
  go_upto_region 5 with (first | refine wpList_load_mid rfl 48 _ rfl bk (off + j * 40) rfl m.cs _ hr HU.out rfl HS1.out ?_ | refine wpList_store_row rfl 48 _ _ rfl wr.heap.size m.cs.toArray rfl rfl 48 mg0.cs.toArray hz HS1.out HM1.out HA1.out ?_)
  generalize hw5 : World.setRow _ _ _ = w5
  have b5 := (show Below wr.heap.size wr w5 from by rw [← hw5]; exact below_setRow (alloc_below wr _) (Nat.le_refl _) _)
  have K5 := lh (show w5.heap[wr.heap.size]? = some (mgobj m) from by rw [← hw5]; exact heap_setRow_same (heap_alloc_new wr _))
  have HB5 := lh (bnext HB.out b5)
  have HMI5 := lh (HMI.out.below b5)
  have HKC := lh (show ∀ (W : World) (g : Nat), W.heap[g]? = some (mgobj m) → W.cell? ⟨g, 0, none⟩ = some (.int .i64 m.kind) ∧ W.cell? ⟨g, 1, none⟩ = some (.int .i64 m.tag) ∧ W.cell? ⟨g, 5, none⟩ = some (.int .i64 m.oldTag) from fun W g h => ⟨by rw [Lib.cell_of_heap h]; rfl, by rw [Lib.cell_of_heap h]; rfl, by rw [Lib.cell_of_heap h]; rfl⟩)
  have C5 := lh (cell_below b5 hbl C39.out)
  have hbl5 : bk < w5.heap.size := Nat.lt_of_lt_of_le hbl b5.size
  clear hz hw5 b5 hr HA1 HM1 C39
  generalize wr.heap.size = g at *
  have HCKM := lh (HCK.out m ns qs w5 HMI5.out)
  clear HCK HAL HMZ HSZ HMI
  unfold mgobj at *
  generalize m.kind = kd at *
  generalize m.tag = tg at *
  generalize m.oldTag = og at *
  generalize m.cs.toArray = A1 at *
  obtain ⟨c0, c1, c5⟩ := HKC.out _ _ K5.out
  go_wp2_with fail
  (with_reducible refine (HRQ.out _ _).mono ?_); rintro e w6 ⟨b, rfl, rfl⟩
  cases b
  ·go_wp2_with fail
   go_ret
   exact retB _ trivial HB5.out
  go_wp2_with (refine wpList_load_rowG (by kernel_rfl) 48 _ rfl g rfl 48 A1 (0, 0) _ K5.out HU.out rfl HS1.out ?_)
  (with_reducible refine HCKM.out.mono ?_); rintro e w6 ⟨r, rfl, _, b6⟩
  have HB6 := lh (bnext HB5.out b6)
  have hb56 := b6.size
  have K6 := lh ((b6.block _ (row_ltP K5.out)).trans K5.out)
  have C6 := lh (cell_below b6 hbl5 C5.out)
  clear b6 HB5 K5 C5 HMI5 HCKM c0 c1 c5 HRQ
  by_cases hr0 : r = 0
  rotate_left
  ·have k0 : (r != 0) = true := by simp [hr0]
   go_wp2_with fail
   go_ret
   exact retB _ trivial HB6.out
  subst hr0
  obtain ⟨c0, c1, c5⟩ := HKC.out _ _ K6.out
  have hb6 := HB6.out
  have HKX := lh (show kd = 100 ∨ (kd ≠ 100 ∧ kd = 108) ∨ (kd ≠ 100 ∧ kd ≠ 108) from by omega)
  have hbl6 : bk < w6.heap.size := Nat.lt_of_lt_of_le hbl5 hb56
  have HFQ := lh (fun n => Calls.quiet_of_same ((HFL.out og (w6.drewN n) (bnext hb6 (below_drewN _ n))).mono fun _ _ h => ⟨h.1, h.2⟩))
  clear hb6
  rcases HKX.out with rfl | ⟨h100, rfl⟩ | ⟨h100, h108⟩
  ·-- a version request
   clear HKX
   by_cases hl1 : 1 < l.length
   ·have k1 : (1 : Int) < l.length := by omega
    go_wp2_with fail
    go_ret
    exact retB _ trivial HB6.out
   have k1 : decide ((1 : Int) < (l.length : Int)) = false := decide_eq_false (by omega)
   go_wp2_with fail
   (with_reducible refine (HIX.out _ _ HB6.out).mono ?_); rintro e w7 ⟨k, rfl, hk, rfl⟩
   by_cases hkj : k = j
   rotate_left
   ·have k2 : (k != (j : Int)) = true := by simp [hkj]
    go_wp2_with fail
    go_ret
    exact retB _ trivial HB6.out
   subst hkj
   go_wp2_with fail
   (with_reducible refine (HIX.out _ _ HB6.out).mono ?_); rintro e w8 ⟨k5, rfl, hk5, rfl⟩
   go_upto_region 8 with fail
   go_quiet (fail)
   have HB8 := lh (bnext HB6.out (below_drewN _ nq))
   have C8 := lh (cell_below (below_drewN _ nq) hbl6 C6.out)
   clear HB6 C6
   go_wp2_with fail
   (with_reducible refine (HFL.out _ _ HB8.out).mono ?_); rintro e w9 ⟨rfl, rfl⟩
   have c39 := C8.out
   generalize l[j].fl = fj at *
   generalize flv l tg = fv at *
   by_cases hfw : fj = 65535
   ·have hkk := HK.out
    rw [hfw] at c39
    go_wp2_with fail
    go_roundg (l.length - (j + 1))
    case measure => omega
    case rel => exact ⟨j + 1, by omega, by go_num, HB8.out, rfl⟩
   ·have kf : (fj != 65535) = true := by simp [hfw]
    go_wp2_with fail
    go_ret
    exact retB _ trivial HB8.out
  ·-- a flush
   clear HKX h100
   by_cases htg : tg < 1
   ·go_wp2_with fail
    go_ret
    exact retB _ trivial HB6.out
   have ktg : decide (tg < 1) = false := decide_eq_false htg
   go_wp2_with fail
   (with_reducible refine (HIX.out _ _ HB6.out).mono ?_); rintro e w7 ⟨k, rfl, hk, rfl⟩
   by_cases hkj : k = j
   rotate_left
   ·have k2 : (k != (j : Int)) = true := by simp [hkj]
    go_wp2_with fail
    go_ret
    exact retB _ trivial HB6.out
   subst hkj
   go_wp2_with fail
   (with_reducible refine (HIX.out _ _ HB6.out).mono ?_); rintro e w8 ⟨k5, rfl, hk5, rfl⟩
   have HQ8 := lh (HFQ.out)
   clear HFQ
   by_cases hft : flv l og = tg
   rotate_left
   ·have kft : (flv l og != tg) = true := by simp [hft]
    go_upto_region 8 with fail
    go_quiet ((go_at_call 61; with_reducible exact HQ8.out _))
    go_wp2_with fail
    go_ret
    exact retB _ trivial (bnext HB6.out (below_drewN _ nq))
   rw [hft] at HQ8
   by_cases hk0 : 0 ≤ k5
   rotate_left
   ·have kk5 : decide (0 ≤ k5) = false := decide_eq_false hk0
    go_upto_region 8 with fail
    go_quiet ((go_at_call 61; with_reducible exact HQ8.out _))
    have HB8 := lh (bnext HB6.out (below_drewN _ nq))
    have C8 := lh (cell_below (below_drewN _ nq) hbl6 C6.out)
    clear HB6 C6
    go_wp2_with fail
    (with_reducible refine (HFL.out _ _ HB8.out).mono ?_); rintro e w9 ⟨rfl, rfl⟩
    have c39 := C8.out
    generalize l[j].fl = fj at *
    generalize flv l tg = fv at *
    by_cases hfw : fj = 65535
    ·have hkk := HK.out
     rw [hfw] at c39
     go_wp2_with fail
     go_roundg (l.length - (j + 1))
     case measure => omega
     case rel => exact ⟨j + 1, by omega, by go_num, HB8.out, rfl⟩
    ·have kf : (fj != 65535) = true := by simp [hfw]
     go_wp2_with fail
     go_ret
     exact retB _ trivial HB8.out
   obtain ⟨n5, rfl⟩ := Int.eq_ofNat_of_zero_le hk0
   have hn5 : n5 < l.length := by omega
   have hi5 : (n5 : Int) < l.length := by omega
   obtain ⟨ao3, cap3, e3, _, _, hcell3⟩ := HV.out _ HB6.out
   cases e3
   obtain ⟨b3, o3, e4, _, cc3, _⟩ := hcell3 n5 hn5
   cases e4
   have cK := (call_cells cc3).1
   clear hcell3 cc3
   generalize l[n5].m.kind = kd5 at *
   by_cases hd5 : kd5 = 108
   ·subst hd5
    go_upto_region 8 with fail
    go_quiet ((go_at_call 61; with_reducible exact HQ8.out _))
    go_wp2_with fail
    go_ret
    exact retB _ trivial (bnext HB6.out (below_drewN _ nq))
   ·have kd5f : (kd5 == 108) = false := by simp [hd5]
    go_upto_region 8 with fail
    go_quiet ((go_at_call 61; with_reducible exact HQ8.out _))
    have HB8 := lh (bnext HB6.out (below_drewN _ nq))
    have C8 := lh (cell_below (below_drewN _ nq) hbl6 C6.out)
    clear HB6 C6
    go_wp2_with fail
    (with_reducible refine (HFL.out _ _ HB8.out).mono ?_); rintro e w9 ⟨rfl, rfl⟩
    have c39 := C8.out
    generalize l[j].fl = fj at *
    generalize flv l tg = fv at *
    by_cases hfw : fj = 65535
    ·have hkk := HK.out
     rw [hfw] at c39
     go_wp2_with fail
     go_roundg (l.length - (j + 1))
     case measure => omega
     case rel => exact ⟨j + 1, by omega, by go_num, HB8.out, rfl⟩
    ·have kf : (fj != 65535) = true := by simp [hfw]
     go_wp2_with fail
     go_ret
     exact retB _ trivial HB8.out
  ·-- another request
   clear HKX
   have e100 : (kd == 100) = false := by simp [h100]
   have n100 : (kd != 100) = true := by simp [h100]
   have e108 : (kd == 108) = false := by simp [h108]
   clear h100 h108
   by_cases htg : tg < 1
   ·go_wp2_with fail
    go_ret
    exact retB _ trivial HB6.out
   have ktg : decide (tg < 1) = false := decide_eq_false htg
   go_wp2_with fail
   (with_reducible refine (HIX.out _ _ HB6.out).mono ?_); rintro e w7 ⟨k, rfl, hk, rfl⟩
   by_cases hkj : k = j
   rotate_left
   ·have k2 : (k != (j : Int)) = true := by simp [hkj]
    go_wp2_with fail
    go_ret
    exact retB _ trivial HB6.out
   subst hkj
   go_wp2_with fail
   (with_reducible refine (HIX.out _ _ HB6.out).mono ?_); rintro e w8 ⟨k5, rfl, hk5, rfl⟩
   go_upto_region 8 with fail
   go_quiet (fail)
   have HB8 := lh (bnext HB6.out (below_drewN _ nq))
   have C8 := lh (cell_below (below_drewN _ nq) hbl6 C6.out)
   clear HB6 C6
   go_wp2_with fail
   (with_reducible refine (HFL.out _ _ HB8.out).mono ?_); rintro e w9 ⟨rfl, rfl⟩
   have c39 := C8.out
   generalize l[j].fl = fj at *
   generalize flv l tg = fv at *
   by_cases hfw : fj = fv
   ·have hkk := HK.out
    rw [hfw] at c39
    go_wp2_with fail
    go_roundg (l.length - (j + 1))
    case measure => omega
    case rel => exact ⟨j + 1, by omega, by go_num, HB8.out, rfl⟩
   ·have kf : (fj != fv) = true := by simp [hfw]
    go_wp2_with fail
    go_ret
    exact retB _ trivial HB8.out
end Go.Proofs.YtfibaopngpfmjaaGreatDoor
