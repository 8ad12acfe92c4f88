/- What the reference's CutAll returns: Ns.cutAll. Conditions: the slice holds the given mounts; at most 10^5 mounts. -/
import Derived.Test.YtganenaaglfdnaaMntCutAll
set_option linter.unusedVariables false
set_option linter.unusedSimpArgs false
namespace Go.Proofs.Ytganenaaglfdnaa
open Go.RowKit
theorem reach_fl {α : Type} {enc : α → List Value} (h6 : ∀ x, (enc x).length = 6) {w : World} {a : Addr} {nw ol : List α} {x : α} (h : ∀ j u, (fl enc (nw ++ x :: ol))[j]? = some u → w.cell? (a.add j) = some u ∧ (a.add j).block < w.heap.size) :
    (∀ j u, (fl enc nw)[j]? = some u → w.cell? (a.add j) = some u ∧ (a.add j).block < w.heap.size) ∧ (∀ j u, (fl enc ol)[j]? = some u → w.cell? (a.add ((nw.length + 1) * 6 + j)) = some u ∧ (a.add ((nw.length + 1) * 6 + j)).block < w.heap.size) := by
  have hl := fl_length enc h6 nw
  refine ⟨fun j u hu => ?_, fun j u hu => ?_⟩
  · have hj : j < (fl enc nw).length := (List.getElem?_eq_some_iff.1 hu).1
    exact h j u (by rw [fl_append, List.getElem?_append_left hj]; exact hu)
  · refine h _ u ?_
    rw [fl_append, List.getElem?_append_right (by rw [hl]; omega), hl, show (nw.length + 1) * 6 + j - nw.length * 6 = 6 + j from by omega]
    simp only [fl]
    rw [List.getElem?_append_right (by rw [h6]; omega), h6, show 6 + j - 6 = j from by omega]
    exact hu

set_option maxRecDepth 20000 in
set_option maxHeartbeats 4000000 in
theorem rmcutall_any (P : Nat → Prop) (id : Int) (r : Chn) (v : Value) (ms : List Mnt) (old : Chn) (w : World) (hv0 : MIn w P v ms) (hP : ∀ b, w.heap.size ≤ b → P b) (hl : ms.length ≤ 100000) :
    Calls Try.prog 42 #[nsv id r v, chv old] w (NsErr P id r (Ns.cutAll ms old) w) := by
  have hv := hv0.mnts
  have HMV := Lib.hid (fun (W W' : World) (h : Below w.heap.size w W) (hg : W.grownBy W' (some (w.heap.size + 2))) => ((hv0.weak (P' := fun b => P b ∧ b < w.heap.size) (fun b h1 h2 => ⟨h1, h2⟩)).below h).grown hg (fun h => by have := h.2; omega) |>.weak (P' := P) (fun b h _ => h.1))
  obtain ⟨rs, hrs, hts, ao, cp, rfl, hc, hnn, hcells0⟩ := hv0
  have hcells := fun a ha => (hcells0 a ha).2
  subst hrs
  rw [List.length_map] at hl
  have HB := Lib.hid (Below.refl w.heap.size w)
  have HFI := Lib.hid (fun (W : World) (h : Below w.heap.size w W) => rmat_any id r (.slice ao rs.length cp) (rs.map (·.1)) old W (hv.below h) (by rw [List.length_map]; omega))
  have HTS := Lib.hid hts
  have HCE := Lib.hid hcells
  have HNN := Lib.hid (fun h => show rs.length = 0 ∧ cp = 0 from ⟨by have := hnn h; omega, hnn h⟩)
  obtain ⟨PM, hPM⟩ : ∃ PM, Ns.cutAll (rs.map (·.1)) old = PM := ⟨_, rfl⟩
  have HPM := Lib.hid hPM
  have HPP := Lib.hid hP
  rw [hPM]
  rw [show Ns.ix (fun t : Mnt => Ns.same t.fr old) (rs.map (·.1)) = Ns.find (rs.map (·.1)) old from rfl] at HFI
  obtain ⟨FI, hFI⟩ : ∃ FI, Ns.find (rs.map (·.1)) old = FI := ⟨_, rfl⟩
  rw [hFI] at HFI
  have HFE := Lib.hid hFI
  clear hv hPM hts hcells hnn hFI hcells0 hP
  unfold nsv chv at *
  obtain ⟨i0, hi0, hz0, hz1, hz2⟩ := info_parts (P := Try.prog) (e := 55) (z := .agg #[.int .i64 0, .int .i64 0, .int .i64 0, .string ByteArray.empty, .string ByteArray.empty, .slice none 0 0]) (size := 6) (bytes := 80) (by kernel_rfl)
  rcases Int.lt_or_le FI 0 with hfi | hfi
  · have HPUT := Lib.hid (show PM = (rs.map (·.1), 45) from by rw [← HPM.out]; unfold Ns.cutAll; rw [if_pos (by rw [HFE.out]; exact hfi)])
    go_enter Try.func42, Try.ntmps42
    go_wp2_with fail
    with_reducible refine (HFI.out _ (((HB.out.alloc (Nat.le_refl _) _).alloc (by simp) _).alloc (by simp; omega) _)).mono ?_; rintro e w1 ⟨rfl, b1⟩
    obtain ⟨hr0, hr1, hr2, hb1⟩ := mafter3 b1
    obtain ⟨⟨q0, q1, q2, q3, q4, q5, q6⟩, ⟨y0, y1, y2, y3, y4, y5, y6⟩⟩ := ns_reads hr0
    obtain ⟨⟨z0, z1, z2, z3, z4, z5, z6⟩, ⟨v0, v1, v2, v3, v4, v5, v6⟩⟩ := ns_reads hr2
    have hz := ns_stored (.int .i64 id) (.int .i64 r.dev) (.int .i64 r.id) (.int .i64 r.fid) (.string (T r.path)) (.string (T r.name)) (.slice ao rs.length cp) hr2
    obtain ⟨⟨x0, x1, x2, x3, x4, x5, x6⟩, _⟩ := ns_reads hz.1
    have HD := Lib.hid (grown_below hb1 hz.2 (by omega))
    have HM := Lib.hid (HMV.out _ _ hb1 hz.2)
    clear hr0 hr1 hr2 hb1 b1 hz
    go_wp2_with fail
    exact bodyPost_ret (v := .tuple #[.agg #[.int .i64 id, .int .i64 r.dev, .int .i64 r.id, .int .i64 r.fid, .string (T r.path), .string (T r.name), .slice ao rs.length cp], .int .i64 45]) (by simp [results, Try.results42, go_sem, x0, x1, x2, x3, x4, x5, x6]) rfl (ns_err HPUT.out HM.out HD.out)
  obtain ⟨k, hkm, e1, e2, e3⟩ := Ns.find_at (show 0 ≤ Ns.find (rs.map (·.1)) old by rw [HFE.out]; exact hfi)
  have hk : k < rs.length := by rw [List.length_map] at hkm; exact hkm
  have hFK : FI = k := by rw [← HFE.out]; exact e1
  subst hFK
  clear hfi e1 e2 e3 hkm
  obtain ⟨nw, x, ol, rfl, rfl⟩ := split_at rs k hk
  have HPUT := Lib.hid (show PM = ((nw ++ ol).map (·.1), 0) from by
    rw [← HPM.out]; unfold Ns.cutAll
    rw [HFE.out, if_neg (by omega), show ((nw.length : Int)).toNat = nw.length from by omega, erase_map, Ns.erase_meet])
  have hlen : (nw ++ x :: ol).length = nw.length + 1 + ol.length := by simp; omega
  rw [hlen] at hl hc HNN HFI ⊢
  clear HMV
  obtain ⟨b, off, hao, hCA⟩ : ∃ b off, ao = some ⟨b, off, none⟩ ∧ ∀ j u, (fl mne (nw ++ x :: ol))[j]? = some u → w.cell? ((⟨b, off, none⟩ : Addr).add j) = some u ∧ ((⟨b, off, none⟩ : Addr).add j).block < w.heap.size := by
    cases ao with
    | none => have := HNN.out rfl; omega
    | some a =>
      have h0 := HCE.out a rfl 0 (.int .i64 ((nw ++ x :: ol)[0]'(by simp <;> omega)).1.fr.dev) (by
        have := fl_get mne mne6 (nw ++ x :: ol) 0 0 (by simp <;> omega) (by omega)
        rw [Nat.zero_mul, Nat.zero_add] at this
        rw [this]; rfl)
      obtain ⟨b, off, sp⟩ := a
      obtain rfl : sp = none := by
        have := World.cell?_spot h0.1
        simpa [Addr.add] using this
      exact ⟨b, off, rfl, HCE.out _ rfl⟩
  subst hao
  obtain ⟨hn1, hn2⟩ := reach_fl mne6 hCA
  have HN1 := Lib.hid hn1
  have HN2 := Lib.hid hn2
  clear hn1 hn2 hCA HCE HNN hk HPM HFE hlen
  have b1' : (nw.length : Int) ≤ (nw.length : Int) + 1 + ol.length := by omega
  have b3' : (nw.length : Int) + 1 ≤ (nw.length : Int) + 1 + ol.length := by omega
  have b5' : (nw.length : Int) ≤ (cp : Int) := by omega
  have b6' : (nw.length : Int) + 1 ≤ (cp : Int) := by omega
  have b0' : (0 : Int) ≤ (nw.length : Int) + 1 := by omega
  go_enter Try.func42, Try.ntmps42
  go_wp2_with fail
  with_reducible refine (HFI.out _ (((HB.out.alloc (Nat.le_refl _) _).alloc (by simp) _).alloc (by simp; omega) _)).mono ?_; rintro e w1 ⟨rfl, b1⟩
  obtain ⟨hr0, hr1, hr2, hb1⟩ := mafter3 b1
  have HS1 : Hid (RwSt P w (w1.alloc (.cells #[] 55)) id r old (.slice (some ⟨b, off, none⟩) (nw.length + 1 + ol.length) cp) (.slice (some ⟨w1.heap.size, 0, none⟩) 0 0) []) :=
    ⟨(Lib.alloc_old _ _ _ (row_lt hr0)).trans hr0, (Lib.alloc_old _ _ _ (row_lt hr1)).trans hr1, (Lib.alloc_old _ _ _ (row_lt hr2)).trans hr2,
      ⟨rfl, .inr ⟨w1.heap.size, 0, #[], rfl, by have := row_lt hr2; omega, heap_alloc_new w1 _, Nat.le_refl _, by unfold maxLen; omega, rfl, rfl⟩⟩, (fun r hr => nomatch hr), hb1.alloc hb1.size _⟩
  have hwsz : w.heap.size + 3 ≤ w1.heap.size := row_lt hr2
  obtain ⟨⟨q0, q1, q2, q3, q4, q5, q6⟩, ⟨y0, y1, y2, y3, y4, y5, y6⟩⟩ := ns_reads hr0
  have q6a := cell_next q6 ((Below.refl _ _).alloc (Nat.le_refl _) (.cells #[] 55))
  clear hr0 hr1 hr2 hb1 b1 HFI
  go_wp2_with (at_builtin; refine wpList_append_any _ rfl _ _ 24 rfl (w.heap.size + 3) 55 i0 (.agg #[.int .i64 0, .int .i64 0, .int .i64 0, .string ByteArray.empty, .string ByteArray.empty, .slice none 0 0]) 6 80 Try.underlying24 hi0 hz0 hz1 hz2 rfl (by decide) (.slice (some ⟨w1.heap.size, 0, none⟩) 0 0) 0 [] rfl ?pa0 (some ⟨b, off, none⟩) nw.length cp (fl mne nw) rfl ?pan ?pa1 ?pa2 ?pa3 ?pa4 ?pa5 ?pa6 ?_)
  case pa0 => exact HS1.out.2.2.2.1
  case pan => exact fun h => nomatch h
  case pa1 => exact fl_length mne mne6 nw
  case pa2 =>
    intro a ha j u hj
    cases ha
    obtain ⟨k1, k2⟩ := HN1.out j u hj
    rw [HS1.out.2.2.2.2.2.cell (p := (⟨b, off, none⟩ : Addr).add j) k2]
    exact k1
  case pa3 => exact mnes1 (fun r hr => (HTS.out r (by simp [hr])).1.form)
  case pa4 => unfold maxLen; omega
  case pa5 => omega
  case pa6 => simp; omega
  intro v6 w6 hown6 hgrow6 hat6
  have HS6 := Lib.hid (RwSt.grow (ys := nw) HS1.out (by simpa [fl] using hown6) hgrow6 (fun r hr => HTS.out r (by simp [hr])))
  rw [List.nil_append] at HS6
  obtain ⟨a6, c6, rfl⟩ := own_lt hown6
  try rw [Nat.zero_add] at *
  clear hown6 hgrow6 hat6 q6a q0 q1 q2 q3 q4 q5 q6 y0 y1 y2 y3 y4 y5 y6 HS1
  obtain ⟨⟨q0, q1, q2, q3, q4, q5, q6⟩, ⟨y0, y1, y2, y3, y4, y5, y6⟩⟩ := ns_reads HS6.out.1
  have hww : w.heap.size ≠ w.heap.size + 2 := by omega
  have hww2 : w.heap.size + 2 ≠ w.heap.size := by omega
  go_upto_region 5 with fail
  by_cases hck : cp = nw.length + 1
  · have hol : ol = [] := List.eq_nil_of_length_eq_zero (by omega)
    subst hol
    subst hck
    simp only [List.length_nil, Nat.add_zero, List.append_nil] at *
    clear b5' b6' b1' b3'
    have b5' : (nw.length : Int) ≤ (nw.length : Int) + 1 := by omega
    go_wp2_with (at_builtin; refine wpList_append_any _ rfl _ _ 24 rfl (w.heap.size + 3) 55 i0 (.agg #[.int .i64 0, .int .i64 0, .int .i64 0, .string ByteArray.empty, .string ByteArray.empty, .slice none 0 0]) 6 80 Try.underlying24 hi0 hz0 hz1 hz2 rfl (by decide) (.slice a6 nw.length c6) nw.length (fl mne nw) rfl ?pb0 (some ⟨b, off, none⟩) 0 0 [] rfl ?pbn ?pb1 ?pb2 ?pb3 ?pb4 ?pb5 ?pb6 ?_)
    case pb0 => exact HS6.out.2.2.2.1
    case pb1 => rfl
    case pb2 =>
      intro a ha j u hj
      cases ha
      simp at hj
    case pb3 => exact fun u hu => nomatch hu
    case pb4 => unfold maxLen; omega
    case pb5 => omega
    case pb6 => have := HS6.out.2.2.2.2.2.size; have := row_lt HS6.out.2.2.1; omega
    intro v7 w7 hown7 hgrow7 _
    have HS7 := Lib.hid (RwSt.grow (ys := []) HS6.out (by simpa [fl] using hown7) hgrow7 (fun r hr => nomatch hr))
    rw [List.append_nil] at HS7
    obtain ⟨a7, c7, rfl⟩ := own_lt hown7
    clear hown7 hgrow7 q0 q1 q2 q3 q4 q5 q6 y0 y1 y2 y3 y4 y5 y6
    obtain ⟨⟨q0, q1, q2, q3, q4, q5, q6⟩, ⟨y0, y1, y2, y3, y4, y5, y6⟩⟩ := ns_reads HS7.out.1
    go_upto_region 6 with fail
    have HSA := Lib.hid HS7.out.store
    generalize w7.setCell ⟨w.heap.size, 6, none⟩ (.slice a7 (nw.length) c7) = WA at *
    clear q0 q1 q2 q3 q4 q5 q6 y0 y1 y2 y3 y4 y5 y6 HS7
    obtain ⟨⟨q0, q1, q2, q3, q4, q5, q6⟩, ⟨y0, y1, y2, y3, y4, y5, y6⟩⟩ := ns_reads HSA.out.1
    obtain ⟨⟨z0, z1, z2, z3, z4, z5, z6⟩, ⟨v0, v1, v2, v3, v4, v5, v6⟩⟩ := ns_reads HSA.out.2.2.1
    go_wp2_with fail
    have hz := ns_stored (.int .i64 id) (.int .i64 r.dev) (.int .i64 r.id) (.int .i64 r.fid) (.string (T r.path)) (.string (T r.name)) (.slice a7 (nw.length) c7) HSA.out.2.2.1
    obtain ⟨⟨x0, x1, x2, x3, x4, x5, x6⟩, _⟩ := ns_reads hz.1
    have HD := Lib.hid (HSA.out.done HPP.out hz.2)
    exact bodyPost_ret (v := .tuple #[.agg #[.int .i64 id, .int .i64 r.dev, .int .i64 r.id, .int .i64 r.fid, .string (T r.path), .string (T r.name), .slice a7 (nw.length) c7], .int .i64 0]) (by simp [results, Try.results42, go_sem, x0, x1, x2, x3, x4, x5, x6]) rfl (ns_err HPUT.out HD.out.1 HD.out.2)
  · go_wp2_with (at_builtin; refine wpList_append_any _ rfl _ _ 24 rfl (w.heap.size + 3) 55 i0 (.agg #[.int .i64 0, .int .i64 0, .int .i64 0, .string ByteArray.empty, .string ByteArray.empty, .slice none 0 0]) 6 80 Try.underlying24 hi0 hz0 hz1 hz2 rfl (by decide) (.slice a6 nw.length c6) nw.length (fl mne nw) rfl ?pc0 (some ⟨b, off + (nw.length + 1) * 6, none⟩) ol.length (cp - (nw.length + 1)) (fl mne ol) rfl ?pcn ?pc1 ?pc2 ?pc3 ?pc4 ?pc5 ?pc6 ?_)
    case pc0 => exact HS6.out.2.2.2.1
    case pcn => exact fun h => nomatch h
    case pc1 => exact fl_length mne mne6 ol
    case pc2 =>
      intro a ha j u hj
      cases ha
      have := HN2.out j u hj
      rw [Addr.add_lit] at this ⊢
      rw [← Nat.add_assoc] at this
      rw [HS6.out.2.2.2.2.2.cell (p := ⟨b, off + (nw.length + 1) * 6 + j, none⟩) this.2]
      exact this.1
    case pc3 => exact mnes1 (fun r hr => (HTS.out r (by simp [hr])).1.form)
    case pc4 => unfold maxLen; omega
    case pc5 => omega
    case pc6 => have := HS6.out.2.2.2.2.2.size; have := row_lt HS6.out.2.2.1; omega
    intro v7 w7 hown7 hgrow7 _
    have HS7 := Lib.hid (RwSt.grow (ys := ol) HS6.out hown7 hgrow7 (fun r hr => HTS.out r (by simp [hr])))
    obtain ⟨a7, c7, rfl⟩ := own_lt hown7
    clear hown7 hgrow7 q0 q1 q2 q3 q4 q5 q6 y0 y1 y2 y3 y4 y5 y6
    obtain ⟨⟨q0, q1, q2, q3, q4, q5, q6⟩, ⟨y0, y1, y2, y3, y4, y5, y6⟩⟩ := ns_reads HS7.out.1
    go_upto_region 6 with fail
    have HSA := Lib.hid HS7.out.store
    generalize w7.setCell ⟨w.heap.size, 6, none⟩ (.slice a7 (nw.length + ol.length) c7) = WA at *
    clear q0 q1 q2 q3 q4 q5 q6 y0 y1 y2 y3 y4 y5 y6 HS7
    obtain ⟨⟨q0, q1, q2, q3, q4, q5, q6⟩, ⟨y0, y1, y2, y3, y4, y5, y6⟩⟩ := ns_reads HSA.out.1
    obtain ⟨⟨z0, z1, z2, z3, z4, z5, z6⟩, ⟨v0, v1, v2, v3, v4, v5, v6⟩⟩ := ns_reads HSA.out.2.2.1
    go_wp2_with fail
    have hz := ns_stored (.int .i64 id) (.int .i64 r.dev) (.int .i64 r.id) (.int .i64 r.fid) (.string (T r.path)) (.string (T r.name)) (.slice a7 (nw.length + ol.length) c7) HSA.out.2.2.1
    obtain ⟨⟨x0, x1, x2, x3, x4, x5, x6⟩, _⟩ := ns_reads hz.1
    have HD := Lib.hid (HSA.out.done HPP.out hz.2)
    exact bodyPost_ret (v := .tuple #[.agg #[.int .i64 id, .int .i64 r.dev, .int .i64 r.id, .int .i64 r.fid, .string (T r.path), .string (T r.name), .slice a7 (nw.length + ol.length) c7], .int .i64 0]) (by simp [results, Try.results42, go_sem, x0, x1, x2, x3, x4, x5, x6]) rfl (ns_err HPUT.out HD.out.1 HD.out.2)
end Go.Proofs.Ytganenaaglfdnaa
