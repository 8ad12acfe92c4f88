/- The call of a kind: want. Conditions: the slice holds the given mounts; short lists. -/
import Derived.Test.YtganenaaglfdnaaMntSmall
import Derived.Test.YtganenaaglfdnaaMntRAdd
import Derived.Test.YtganenaaglfdnaaMntRCut
import Derived.Test.YtganenaaglfdnaaMntPlain
set_option linter.unusedVariables false
set_option linter.unusedSimpArgs false
namespace Go.Proofs.Ytganenaaglfdnaa
open Go.RowKit

set_option maxRecDepth 20000 in
set_option maxHeartbeats 4000000 in
theorem want_any (P : Nat → Prop) (id : Int) (r : Chn) (v : Value) (ms : List Mnt) (k : Int) (o c : Chn) (flag : Int) (w : World) (hv : MIn w P v ms) (hP : ∀ b, w.heap.size ≤ b → P b) (hl : ms.length ≤ 100000) (hu : ∀ m ∈ ms, m.to.length ≤ 100000) (hfl : flag ≤ 9223372036854775807) :
    Calls Try.prog 21 #[nsv id r v, opv k o c flag] w (NsErr P id r (Ns.call k ms o c flag) w) := by
  obtain ⟨ao, cp, rfl⟩ := hv.form
  have HV := Lib.hid (hv.weak (P' := fun b => P b ∧ b ≠ w.heap.size + 2) (fun b h1 h2 => ⟨h1, by omega⟩))
  have HPP := Lib.hid hP
  have hu6 : ∀ m ∈ ms, m.to.length ≤ 1000000 := fun m hm => by have := hu m hm; omega
  have HU := Lib.hid hu
  have HU6 := Lib.hid hu6
  obtain ⟨⟨M, E⟩, hME⟩ : ∃ p, Ns.call k ms o c flag = p := ⟨_, rfl⟩
  have HME := Lib.hid hME
  rw [hME]
  clear hv hP hu hu6 hME
  unfold opv nsv
  go_enter Try.func21, Try.ntmps21
  go_upto_region 1 with fail
  obtain ⟨hr0, hr1, hr2, hb0⟩ := mafter3 (w := w) (A := .cells #[.int .i64 id, .int .i64 r.dev, .int .i64 r.id, .int .i64 r.fid, .string (T r.path), .string (T r.name), .slice ao ms.length cp] 26 (0, 0)) (B := .cells #[.int .i64 k, .int .i64 o.dev, .int .i64 o.id, .int .i64 o.fid, .string (T o.path), .string (T o.name), .int .i64 c.dev, .int .i64 c.id, .int .i64 c.fid, .string (T c.path), .string (T c.name), .int .i64 flag] 34 (0, 0)) (C := .cells #[.int .i64 0, .int .i64 0, .int .i64 0, .int .i64 0, .string ⟨#[]⟩, .string ⟨#[]⟩, .slice none 0 0] 26 (0, 0)) (Below.refl _ _)
  have hsz : w.heap.size + 3 ≤ (((w.alloc (.cells #[.int .i64 id, .int .i64 r.dev, .int .i64 r.id, .int .i64 r.fid, .string (T r.path), .string (T r.name), .slice ao ms.length cp] 26 (0, 0))).alloc (.cells #[.int .i64 k, .int .i64 o.dev, .int .i64 o.id, .int .i64 o.fid, .string (T o.path), .string (T o.name), .int .i64 c.dev, .int .i64 c.id, .int .i64 c.fid, .string (T c.path), .string (T c.name), .int .i64 flag] 34 (0, 0))).alloc (.cells #[.int .i64 0, .int .i64 0, .int .i64 0, .int .i64 0, .string ⟨#[]⟩, .string ⟨#[]⟩, .slice none 0 0] 26 (0, 0))).heap.size := by simp
  generalize ((w.alloc _).alloc _).alloc _ = W0 at *
  have HB0 := Lib.hid hb0
  have HNR := Lib.hid hr0
  have HOR := Lib.hid hr1
  have HCR := Lib.hid hr2
  have HV0 := Lib.hid (HV.out.below hb0)
  have HPQ := Lib.hid (show ∀ W, Below W0.heap.size W0 W → ∀ b, W.heap.size ≤ b → (fun b => P b ∧ b ≠ w.heap.size + 2) b from fun W h b hb => ⟨HPP.out b (by have := h.size; omega), by have := h.size; omega⟩)
  have HAD := Lib.hid (fun (W : World) (h : Below W0.heap.size W0 W) => show k = 1 → Calls Try.prog 40 #[.agg #[.int .i64 id, .int .i64 r.dev, .int .i64 r.id, .int .i64 r.fid, .string (T r.path), .string (T r.name), .slice ao ms.length cp], .agg #[.int .i64 o.dev, .int .i64 o.id, .int .i64 o.fid, .string (T o.path), .string (T o.name)], .agg #[.int .i64 c.dev, .int .i64 c.id, .int .i64 c.fid, .string (T c.path), .string (T c.name)], .int .i64 flag] W (NsErr (fun b => P b ∧ b ≠ w.heap.size + 2) id r (M, E) W) from fun hk => by
    rw [← HME.out, show Ns.call k ms o c flag = Ns.add ms o c flag from by unfold Ns.call; rw [if_pos hk]]
    exact rmadd_any _ id r _ ms o c flag W (HV0.out.below h) (HPQ.out W h) hl HU.out hfl)
  have HCU := Lib.hid (fun (W : World) (h : Below W0.heap.size W0 W) => show k = 2 → Calls Try.prog 41 #[.agg #[.int .i64 id, .int .i64 r.dev, .int .i64 r.id, .int .i64 r.fid, .string (T r.path), .string (T r.name), .slice ao ms.length cp], .agg #[.int .i64 o.dev, .int .i64 o.id, .int .i64 o.fid, .string (T o.path), .string (T o.name)], .agg #[.int .i64 c.dev, .int .i64 c.id, .int .i64 c.fid, .string (T c.path), .string (T c.name)]] W (NsErr (fun b => P b ∧ b ≠ w.heap.size + 2) id r (M, E) W) from fun hk => by
    rw [← HME.out, show Ns.call k ms o c flag = Ns.cut ms o c from by unfold Ns.call; rw [if_neg (by omega), if_pos hk]]
    exact rmcut_any _ id r _ ms o c W (HV0.out.below h) (HPQ.out W h) hl HU.out)
  have HCA := Lib.hid (fun (W : World) (h : Below W0.heap.size W0 W) => show k ≠ 1 ∧ k ≠ 2 → Calls Try.prog 42 #[.agg #[.int .i64 id, .int .i64 r.dev, .int .i64 r.id, .int .i64 r.fid, .string (T r.path), .string (T r.name), .slice ao ms.length cp], .agg #[.int .i64 o.dev, .int .i64 o.id, .int .i64 o.fid, .string (T o.path), .string (T o.name)]] W (NsErr (fun b => P b ∧ b ≠ w.heap.size + 2) id r (M, E) W) from fun hk => by
    rw [← HME.out, show Ns.call k ms o c flag = Ns.cutAll ms o from by unfold Ns.call; rw [if_neg hk.1, if_neg hk.2]]
    exact rmcutall_any _ id r _ ms o W (HV0.out.below h) (HPQ.out W h) hl)
  clear hb0 HV HPP HU HU6 HME HV0 HPQ hl hfl
  obtain ⟨⟨h0, h1, h2, h3, h4, h5, h6⟩, _⟩ := ns_reads HNR.out
  have o0 : W0.cell? ⟨w.heap.size + 1, 0, none⟩ = some (.int .i64 k) := by rw [cell_of_row _ _ _ _ _ _ hr1]; rfl
  have o1 : W0.cell? ⟨w.heap.size + 1, 1, none⟩ = some (.int .i64 o.dev) := by rw [cell_of_row _ _ _ _ _ _ hr1]; rfl
  have o2 : W0.cell? ⟨w.heap.size + 1, 2, none⟩ = some (.int .i64 o.id) := by rw [cell_of_row _ _ _ _ _ _ hr1]; rfl
  have o3 : W0.cell? ⟨w.heap.size + 1, 3, none⟩ = some (.int .i64 o.fid) := by rw [cell_of_row _ _ _ _ _ _ hr1]; rfl
  have o4 : W0.cell? ⟨w.heap.size + 1, 4, none⟩ = some (.string (T o.path)) := by rw [cell_of_row _ _ _ _ _ _ hr1]; rfl
  have o5 : W0.cell? ⟨w.heap.size + 1, 5, none⟩ = some (.string (T o.name)) := by rw [cell_of_row _ _ _ _ _ _ hr1]; rfl
  have o6 : W0.cell? ⟨w.heap.size + 1, 6, none⟩ = some (.int .i64 c.dev) := by rw [cell_of_row _ _ _ _ _ _ hr1]; rfl
  have o7 : W0.cell? ⟨w.heap.size + 1, 7, none⟩ = some (.int .i64 c.id) := by rw [cell_of_row _ _ _ _ _ _ hr1]; rfl
  have o8 : W0.cell? ⟨w.heap.size + 1, 8, none⟩ = some (.int .i64 c.fid) := by rw [cell_of_row _ _ _ _ _ _ hr1]; rfl
  have o9 : W0.cell? ⟨w.heap.size + 1, 9, none⟩ = some (.string (T c.path)) := by rw [cell_of_row _ _ _ _ _ _ hr1]; rfl
  have o10 : W0.cell? ⟨w.heap.size + 1, 10, none⟩ = some (.string (T c.name)) := by rw [cell_of_row _ _ _ _ _ _ hr1]; rfl
  have o11 : W0.cell? ⟨w.heap.size + 1, 11, none⟩ = some (.int .i64 flag) := by rw [cell_of_row _ _ _ _ _ _ hr1]; rfl
  clear hr0 hr1 hr2
  have hge : w.heap.size ≤ w.heap.size + 2 := by omega
  by_cases hk1 : k = 1
  · replace HAD := Lib.hid (fun W h => HAD.out W h hk1)
    clear HCU HCA hsz
    subst hk1
    go_wp2_with fail
    (with_reducible refine (HAD.out _ (Below.refl _ _)).mono ?_); rintro e w1 ⟨a1, n1, c1, rfl, hm, b1⟩
    unfold nsv
    clear o0 o1 o2 o3 o4 o5 o6 o7 o8 o9 o10 o11 h0 h1 h2 h3 h4 h5 h6
    obtain ⟨⟨q0, q1, q2, q3, q4, q5, q6⟩, ⟨y0, y1, y2, y3, y4, y5, y6⟩⟩ := ns_reads ((b1.block _ (row_lt HCR.out)).trans HCR.out)
    have hz := ns_stored (.int .i64 id) (.int .i64 r.dev) (.int .i64 r.id) (.int .i64 r.fid) (.string (T r.path)) (.string (T r.name)) (.slice a1 n1 c1) ((b1.block _ (row_lt HCR.out)).trans HCR.out)
    have HM := Lib.hid (fin_in hm hz.2)
    have HBB := Lib.hid (grown_below (bnext HB0.out b1) hz.2 (by omega))
    obtain ⟨⟨x0, x1, x2, x3, x4, x5, x6⟩, _⟩ := ns_reads hz.1
    clear hm b1 hz
    go_wp2_with fail
    exact bodyPost_ret (v := .tuple #[.agg #[.int .i64 id, .int .i64 r.dev, .int .i64 r.id, .int .i64 r.fid, .string (T r.path), .string (T r.name), .slice a1 n1 c1], .int .i64 E]) (by simp [results, Try.results21, go_sem, x0, x1, x2, x3, x4, x5, x6]) rfl (ns_err rfl HM.out HBB.out)
  by_cases hk2 : k = 2
  · replace HCU := Lib.hid (fun W h => HCU.out W h hk2)
    clear HAD HCA hsz hk1
    subst hk2
    go_wp2_with fail
    (with_reducible refine (HCU.out _ (Below.refl _ _)).mono ?_); rintro e w1 ⟨a1, n1, c1, rfl, hm, b1⟩
    unfold nsv
    clear o0 o1 o2 o3 o4 o5 o6 o7 o8 o9 o10 o11 h0 h1 h2 h3 h4 h5 h6
    obtain ⟨⟨q0, q1, q2, q3, q4, q5, q6⟩, ⟨y0, y1, y2, y3, y4, y5, y6⟩⟩ := ns_reads ((b1.block _ (row_lt HCR.out)).trans HCR.out)
    have hz := ns_stored (.int .i64 id) (.int .i64 r.dev) (.int .i64 r.id) (.int .i64 r.fid) (.string (T r.path)) (.string (T r.name)) (.slice a1 n1 c1) ((b1.block _ (row_lt HCR.out)).trans HCR.out)
    have HM := Lib.hid (fin_in hm hz.2)
    have HBB := Lib.hid (grown_below (bnext HB0.out b1) hz.2 (by omega))
    obtain ⟨⟨x0, x1, x2, x3, x4, x5, x6⟩, _⟩ := ns_reads hz.1
    clear hm b1 hz
    go_wp2_with fail
    exact bodyPost_ret (v := .tuple #[.agg #[.int .i64 id, .int .i64 r.dev, .int .i64 r.id, .int .i64 r.fid, .string (T r.path), .string (T r.name), .slice a1 n1 c1], .int .i64 E]) (by simp [results, Try.results21, go_sem, x0, x1, x2, x3, x4, x5, x6]) rfl (ns_err rfl HM.out HBB.out)
  · replace HCA := Lib.hid (fun W h => HCA.out W h ⟨hk1, hk2⟩)
    clear HAD HCU hsz
    go_wp2_with fail
    (with_reducible refine (HCA.out _ (Below.refl _ _)).mono ?_); rintro e w1 ⟨a1, n1, c1, rfl, hm, b1⟩
    unfold nsv
    clear o0 o1 o2 o3 o4 o5 o6 o7 o8 o9 o10 o11 h0 h1 h2 h3 h4 h5 h6
    obtain ⟨⟨q0, q1, q2, q3, q4, q5, q6⟩, ⟨y0, y1, y2, y3, y4, y5, y6⟩⟩ := ns_reads ((b1.block _ (row_lt HCR.out)).trans HCR.out)
    have hz := ns_stored (.int .i64 id) (.int .i64 r.dev) (.int .i64 r.id) (.int .i64 r.fid) (.string (T r.path)) (.string (T r.name)) (.slice a1 n1 c1) ((b1.block _ (row_lt HCR.out)).trans HCR.out)
    have HM := Lib.hid (fin_in hm hz.2)
    have HBB := Lib.hid (grown_below (bnext HB0.out b1) hz.2 (by omega))
    obtain ⟨⟨x0, x1, x2, x3, x4, x5, x6⟩, _⟩ := ns_reads hz.1
    clear hm b1 hz
    go_wp2_with fail
    exact bodyPost_ret (v := .tuple #[.agg #[.int .i64 id, .int .i64 r.dev, .int .i64 r.id, .int .i64 r.fid, .string (T r.path), .string (T r.name), .slice a1 n1 c1], .int .i64 E]) (by simp [results, Try.results21, go_sem, x0, x1, x2, x3, x4, x5, x6]) rfl (ns_err rfl HM.out HBB.out)
end Go.Proofs.Ytganenaaglfdnaa
