/- The law's helpers: at, brief, light, small. Conditions: the slices hold the given mounts. -/
import Derived.Test.YtganenaaglfdnaaMntEqual
set_option linter.unusedVariables false
set_option linter.unusedSimpArgs false
namespace Go.Proofs.Ytganenaaglfdnaa
open Go.RowKit
namespace Ns
/-- The channel that the law's examples use. -/
def at_ (k : Int) : Chn := ⟨0, k, 0, [], [47, 120]⟩
def brief (c : Chn) : Bool := decide (c.path.length ≤ 2000 ∧ c.name.length ≤ 2000)
theorem brief_no {c : Chn} (h : ¬ (c.path.length ≤ 2000 ∧ c.name.length ≤ 2000)) : brief c = false := decide_eq_false h
theorem brief_yes {c : Chn} (h : c.path.length ≤ 2000) (k : c.name.length ≤ 2000) : brief c = true := decide_eq_true ⟨h, k⟩
end Ns
theorem at_any (k : Int) (w : World) :
    Calls Try.prog 31 #[.int .i64 k] w fun e w' => e = .returned (chv (Ns.at_ k)) ∧ Below w.heap.size w w' := by
  have HB := Lib.hid (Below.refl w.heap.size w)
  unfold chv Ns.at_
  go_enter Try.func31, Try.ntmps31
  go_wp2_with fail
  exact bodyPost_ret (v := .agg #[.int .i64 0, .int .i64 k, .int .i64 0, .string ⟨#[]⟩, .string ⟨#[47, 120]⟩]) (by simp [results, Try.results31, go_sem]) rfl ⟨rfl, by (repeat' first | exact HB.out | refine Below.setCell ?_ ?_ _ | refine Below.alloc ?_ ?_ _) <;> (simp <;> omega)⟩
set_option maxHeartbeats 1000000 in
theorem brief_any (c : Chn) (w : World) :
    Calls Try.prog 22 #[chv c] w fun e w' => e = .returned (.bool (Ns.brief c)) ∧ Below w.heap.size w w' := by
  have HB := Lib.hid (Below.refl w.heap.size w)
  unfold chv
  rcases Nat.lt_or_ge 2000 c.path.length with h | h
  · have HF := Lib.hid (Ns.brief_no (c := c) (by omega))
    have k1 : ¬ (c.path.length : Int) ≤ 2000 := by omega
    go_enter Try.func22, Try.ntmps22
    go_wp2_with fail
    go_ret
    exact ⟨by rw [HF.out]; rfl, HB.out.alloc (Nat.le_refl _) _⟩
  · have k1 : (c.path.length : Int) ≤ 2000 := by omega
    rcases Nat.lt_or_ge 2000 c.name.length with h2 | h2
    · have HF := Lib.hid (Ns.brief_no (c := c) (by omega))
      have k2 : ¬ (c.name.length : Int) ≤ 2000 := by omega
      go_enter Try.func22, Try.ntmps22
      go_wp2_with fail
      go_ret
      exact ⟨by rw [HF.out]; simp [k2], HB.out.alloc (Nat.le_refl _) _⟩
    · have HF := Lib.hid (Ns.brief_yes (c := c) h h2)
      have k2 : (c.name.length : Int) ≤ 2000 := by omega
      go_enter Try.func22, Try.ntmps22
      go_wp2_with fail
      go_ret
      exact ⟨by rw [HF.out]; simp [k2], HB.out.alloc (Nat.le_refl _) _⟩
/-- A call as a value. -/
def opv (k : Int) (o c : Chn) (flag : Int) : Value := .agg #[.int .i64 k, .int .i64 o.dev, .int .i64 o.id, .int .i64 o.fid, .string (T o.path), .string (T o.name), .int .i64 c.dev, .int .i64 c.id, .int .i64 c.fid, .string (T c.path), .string (T c.name), .int .i64 flag]
set_option maxHeartbeats 2000000 in
theorem light_any (k : Int) (o c : Chn) (flag : Int) (w : World) :
    Calls Try.prog 19 #[opv k o c flag] w fun e w' => e = .returned (.bool (Ns.brief o && Ns.brief c)) ∧ Below w.heap.size w w' := by
  have HB := Lib.hid (Below.refl w.heap.size w)
  have HBR := Lib.hid (fun (c : Chn) (W : World) => brief_any c W)
  unfold opv
  unfold chv at HBR
  go_enter Try.func19, Try.ntmps19
  go_wp2_with fail
  (with_reducible refine (HBR.out _ _).mono ?_); rintro e w2 ⟨rfl, b2⟩
  have hm2 := mafter1_new b2
  have HB2 := Lib.hid (mafter1 b2)
  have c6 : w2.cell? ⟨w.heap.size, 6, none⟩ = some (.int .i64 c.dev) := by rw [cell_of_row _ _ _ _ _ _ hm2]; rfl
  have c7 : w2.cell? ⟨w.heap.size, 7, none⟩ = some (.int .i64 c.id) := by rw [cell_of_row _ _ _ _ _ _ hm2]; rfl
  have c8 : w2.cell? ⟨w.heap.size, 8, none⟩ = some (.int .i64 c.fid) := by rw [cell_of_row _ _ _ _ _ _ hm2]; rfl
  have c9 : w2.cell? ⟨w.heap.size, 9, none⟩ = some (.string (T c.path)) := by rw [cell_of_row _ _ _ _ _ _ hm2]; rfl
  have c10 : w2.cell? ⟨w.heap.size, 10, none⟩ = some (.string (T c.name)) := by rw [cell_of_row _ _ _ _ _ _ hm2]; rfl
  clear b2 hm2
  cases hb : Ns.brief o
  · go_wp2_with fail
    go_ret
    exact ⟨by rw [hb]; rfl, HB2.out⟩
  · go_wp2_with fail
    (with_reducible refine (HBR.out _ _).mono ?_); rintro e w3 ⟨rfl, b3⟩
    have HB3 := Lib.hid (bnext HB2.out b3)
    clear b3
    go_wp2_with fail
    go_ret
    exact ⟨by rw [hb]; rfl, HB3.out⟩
/-- What small returns: where it is true, the lists are short. -/
def SmSays (ms : List Mnt) (w : World) (e : Ending) (w' : World) : Prop := ∃ x, e = .returned (.bool x) ∧ (x = true → ms.length ≤ 70 ∧ ∀ m ∈ ms, m.to.length ≤ 20) ∧ Below w.heap.size w w'
theorem sm_no {ms : List Mnt} {w w' : World} (h : Below w.heap.size w w') : SmSays ms w (.returned (.bool false)) w' := ⟨_, rfl, (fun h => nomatch h), h⟩
/-- The box of the name space, and that what lies below is as it was. -/
def SmR (w W : World) (id : Int) (r : Chn) (v : Value) : Prop := W.heap[w.heap.size]? = some (.cells #[.int .i64 id, .int .i64 r.dev, .int .i64 r.id, .int .i64 r.fid, .string (T r.path), .string (T r.name), v] 26 (0, 0)) ∧ Below w.heap.size w W
theorem SmR.next {w W W' : World} {id : Int} {r : Chn} {v : Value} (h : SmR w W id r v) (hb : Below W.heap.size W W') : SmR w W' id r v := ⟨(hb.block _ (row_lt h.1)).trans h.1, bnext h.2 hb⟩
set_option maxRecDepth 20000 in
set_option maxHeartbeats 4000000 in
theorem small_any (id : Int) (r : Chn) (v : Value) (ms : List Mnt) (w : World) (hv : Mnts w v ms) :
    Calls Try.prog 10 #[nsv id r v] w (SmSays ms w) := by
  obtain ⟨ao, n, cp, rfl⟩ := hv.form
  obtain ⟨rfl, hat⟩ := hv.at
  have HM := Lib.hid hat
  have HBR := Lib.hid (fun (c : Chn) (W : World) => brief_any c W)
  unfold chv nsv at *
  clear hv hat
  go_enter Try.func10, Try.ntmps10
  go_upto_region 1 with fail
  have hal := heap_alloc_new w (.cells #[.int .i64 id, .int .i64 r.dev, .int .i64 r.id, .int .i64 r.fid, .string (T r.path), .string (T r.name), .slice ao ms.length cp] 26)
  have HS : Hid (SmR w _ id r (.slice ao ms.length cp)) := ⟨hal, (Below.refl _ _).alloc (Nat.le_refl _) _⟩
  clear hal
  generalize w.alloc _ = W1 at *
  obtain ⟨⟨a0, a1, a2, a3, a4, a5, a6⟩, _⟩ := ns_reads HS.out.1
  rcases Nat.lt_or_ge 70 ms.length with h70 | h70
  · have k1 : (70 : Int) < ms.length := by omega
    go_wp2_with fail
    go_ret
    exact sm_no HS.out.2
  have k1 : ¬ (70 : Int) < ms.length := by omega
  have k1d : decide ((70 : Int) < ms.length) = false := decide_eq_false k1
  rcases Nat.lt_or_ge 2000 r.path.length with hp | hp
  · have k2 : (2000 : Int) < r.path.length := by omega
    go_wp2_with fail
    go_ret
    exact sm_no HS.out.2
  have k2 : ¬ (2000 : Int) < r.path.length := by omega
  have k2d : decide ((2000 : Int) < r.path.length) = false := decide_eq_false k2
  rcases Nat.lt_or_ge 2000 r.name.length with hn | hn
  · have k3 : (2000 : Int) < r.name.length := by omega
    go_wp2_with fail
    go_ret
    exact sm_no HS.out.2
  have k3 : ¬ (2000 : Int) < r.name.length := by omega
  have k3d : decide ((2000 : Int) < r.name.length) = false := decide_eq_false k3
  go_wp2_with fail
  go_loopw [27] (fun i wr => ∃ k : Nat, k ≤ ms.length ∧ i = .int .i64 (k : Int) ∧ Hid (∀ j (hj : j < k) (hk : k ≤ ms.length), (ms[j]'(by omega)).to.length ≤ 20) ∧ Hid (SmR w wr id r (.slice ao ms.length cp))) (fun i _ => ms.length - (intOf i).toNat)
  case atStart => exact ⟨0, by omega, rfl, (fun j hj => by omega), HS⟩
  case round =>
    obtain ⟨k, hk, rfl, hn, HR⟩ := hrel
    clear a0 a1 a2 a3 a4 a5 a6 HS
    obtain ⟨⟨a0, a1, a2, a3, a4, a5, a6⟩, _⟩ := ns_reads HR.out.1
    by_cases hlt : k < ms.length
    · obtain ⟨b, off, rfl, hbl, cc, tv, c5, ct⟩ := HM.out k hlt
      obtain ⟨ta, tn, tc, rfl⟩ := ct.form
      obtain ⟨rfl, hta⟩ := ct.at
      have hbb := HR.out.2
      obtain ⟨d0, d1, d2, d3, d4⟩ := cc.below (w' := wr) ⟨hbb.os, hbb.tape, hbb.output, hbb.size, hbb.block⟩ hbl
      have d5 := (hbb.cell (p := ⟨b, off + k * 6 + 5, none⟩) hbl).trans c5
      have HTA := Lib.hid hta
      have hki : (k : Int) < ms.length := by omega
      clear cc c5 ct hta hbb
      go_upto_region 7 with fail
      have HM2 := Lib.hid (heap_alloc_new wr (.cells #[.int .i64 ms[k].fr.dev, .int .i64 ms[k].fr.id, .int .i64 ms[k].fr.fid, .string (T ms[k].fr.path), .string (T ms[k].fr.name), .slice ta ms[k].to.length tc] 55))
      have HR2 := Lib.hid (HR.out.next ((Below.refl _ _).alloc (Nat.le_refl _) (.cells #[.int .i64 ms[k].fr.dev, .int .i64 ms[k].fr.id, .int .i64 ms[k].fr.fid, .string (T ms[k].fr.path), .string (T ms[k].fr.name), .slice ta ms[k].to.length tc] 55)))
      generalize wr.alloc _ = W2 at *
      have HG := Lib.hid (row_lt HR.out.1)
      generalize wr.heap.size = g at *
      clear a0 a1 a2 a3 a4 a5 a6 d0 d1 d2 d3 d4 d5 HR
      obtain ⟨⟨a0, a1, a2, a3, a4, a5, a6⟩, _⟩ := ns_reads HR2.out.1
      obtain ⟨f0, f1, f2, f3, f4, f5⟩ := mnt_reads HM2.out
      rcases Nat.lt_or_ge 20 ms[k].to.length with h20 | h20
      · have k4 : (20 : Int) < ms[k].to.length := by omega
        go_wp2_with fail
        go_ret
        exact sm_no HR2.out.2
      have k4 : ¬ (20 : Int) < ms[k].to.length := by omega
      have k4d : decide ((20 : Int) < ms[k].to.length) = false := decide_eq_false k4
      go_wp2_with fail
      (with_reducible refine (HBR.out _ _).mono ?_); rintro e w3 ⟨rfl, b3⟩
      have HM3 := Lib.hid ((b3.block _ (row_lt HM2.out)).trans HM2.out)
      have HR3 := Lib.hid (HR2.out.next b3)
      clear a0 a1 a2 a3 a4 a5 a6 f0 f1 f2 f3 f4 f5 b3 HM2 HR2
      obtain ⟨⟨a0, a1, a2, a3, a4, a5, a6⟩, _⟩ := ns_reads HR3.out.1
      obtain ⟨f0, f1, f2, f3, f4, f5⟩ := mnt_reads HM3.out
      cases hbf : Ns.brief ms[k].fr
      · go_wp2_with fail
        go_ret
        exact sm_no HR3.out.2
      go_wp2_with fail
      go_loopw [48] (fun i wr => ∃ q : Nat, q ≤ ms[k].to.length ∧ i = .int .i64 (q : Int) ∧ Hid (wr.heap[g]? = some (.cells #[.int .i64 ms[k].fr.dev, .int .i64 ms[k].fr.id, .int .i64 ms[k].fr.fid, .string (T ms[k].fr.path), .string (T ms[k].fr.name), .slice ta ms[k].to.length tc] 55 (0, 0))) ∧ Hid (SmR w wr id r (.slice (some ⟨b, off, none⟩) ms.length cp))) (fun i _ => ms[k].to.length - (intOf i).toNat)
      case atStart => exact ⟨0, by omega, rfl, HM3, HR3⟩
      case round =>
        obtain ⟨q, hq, rfl, HZ, HY⟩ := hrel
        clear a0 a1 a2 a3 a4 a5 a6 f0 f1 f2 f3 f4 f5 HM3 HR3
        obtain ⟨f0, f1, f2, f3, f4, f5⟩ := mnt_reads HZ.out
        by_cases hql : q < ms[k].to.length
        · obtain ⟨tb, to_, rfl, htl, tcc, t5⟩ := HTA.out q hql
          have hbb := HY.out.2
          obtain ⟨e0, e1, e2, e3, e4⟩ := tcc.below (w' := wr) ⟨hbb.os, hbb.tape, hbb.output, hbb.size, hbb.block⟩ htl
          have hqi : (q : Int) < ms[k].to.length := by omega
          clear tcc t5 hbb
          go_wp2_with fail
          (with_reducible refine (HBR.out _ _).mono ?_); rintro e w5 ⟨rfl, b5⟩
          have HZ5 := Lib.hid ((b5.block _ (row_lt HZ.out)).trans HZ.out)
          have HY5 := Lib.hid (HY.out.next b5)
          clear b5 e0 e1 e2 e3 e4 f0 f1 f2 f3 f4 f5 HZ HY
          cases hbt : Ns.brief (ms[k].to[q]).ch
          · go_wp2_with fail
            go_ret
            exact sm_no HY5.out.2
          go_wp2_with fail
          go_roundw
          case rel => exact ⟨q + 1, by omega, by go_num, HZ5, HY5⟩
          case measure => simp [intOf]; omega
        · obtain rfl : q = ms[k].to.length := by omega
          go_wp2_with fail
          go_roundw
          case rel => exact ⟨k + 1, by omega, by go_num, (fun j hj hk2 => by
            rcases Nat.lt_or_ge j k with h | h
            · exact hn j h hk
            · obtain rfl : j = k := by omega
              exact h20), HY⟩
          case measure => simp [intOf]; omega
    · obtain rfl : k = ms.length := by omega
      go_wp2_with fail
      go_ret
      exact ⟨_, rfl, (fun _ => ⟨h70, fun m hm => by
        obtain ⟨j, hj, rfl⟩ := List.getElem_of_mem hm
        exact hn j hj (Nat.le_refl _)⟩), HR.out.2⟩
end Go.Proofs.Ytganenaaglfdnaa
