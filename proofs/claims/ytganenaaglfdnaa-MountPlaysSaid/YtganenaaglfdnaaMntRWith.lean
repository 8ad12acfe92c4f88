/- What the reference's with returns: Ns.put. Conditions: the slices hold the given lists; at most 10^5 mounts. -/
import Derived.Test.YtganenaaglfdnaaMntWith
import Derived.Test.YtganenaaglfdnaaAppAny
set_option linter.unusedVariables false
set_option linter.unusedSimpArgs false
namespace Go.Proofs.Ytganenaaglfdnaa
open Go.RowKit
/-- The box of the name space, of the channel, of the result; the row of mounts, its unions as they came in. -/
def RwSt (P : Nat → Prop) (w W : World) (id : Int) (r old : Chn) (v0 : Value) (v : Value) (rs : List (Mnt × Value)) : Prop :=
  W.heap[w.heap.size]? = some (.cells #[.int .i64 id, .int .i64 r.dev, .int .i64 r.id, .int .i64 r.fid, .string (T r.path), .string (T r.name), v0] 26 (0, 0)) ∧
  W.heap[w.heap.size + 1]? = some (.cells #[.int .i64 old.dev, .int .i64 old.id, .int .i64 old.fid, .string (T old.path), .string (T old.name)] 23 (0, 0)) ∧
  W.heap[w.heap.size + 2]? = some (.cells #[.int .i64 0, .int .i64 0, .int .i64 0, .int .i64 0, .string ⟨#[]⟩, .string ⟨#[]⟩, .slice none 0 0] 26 (0, 0)) ∧
  W.ownsRow (w.heap.size + 3) 55 6 v rs.length (fl mne rs) ∧ (∀ r ∈ rs, Tgts w r.2 r.1.to ∧ (r.1.to ≠ [] → ∃ b, r.2.ownBlock = some b ∧ P b)) ∧ Below w.heap.size w W
theorem RwSt.next {P : Nat → Prop} {w W W' : World} {id : Int} {r old : Chn} {v0 v : Value} {rs : List (Mnt × Value)} (h : RwSt P w W id r old v0 v rs) (hb : Below W.heap.size W W') : RwSt P w W' id r old v0 v rs := by
  obtain ⟨h0, h1, h2, h3, h4, h5⟩ := h
  exact ⟨(hb.block _ (row_lt h0)).trans h0, (hb.block _ (row_lt h1)).trans h1, (hb.block _ (row_lt h2)).trans h2, own_below h3 hb, h4, bnext h5 hb⟩
/-- Behind an append to the row, before the store. -/
theorem RwSt.grow {P : Nat → Prop} {w W w6 : World} {id : Int} {r old : Chn} {v0 v v' : Value} {rs ys : List (Mnt × Value)} (h : RwSt P w W id r old v0 v rs)
    (hown : w6.ownsRow (w.heap.size + 3) 55 6 v' (rs.length + ys.length) (fl mne rs ++ fl mne ys)) (hg : W.grownBy w6 v.ownBlock) (hy : ∀ r ∈ ys, Tgts w r.2 r.1.to ∧ (r.1.to ≠ [] → ∃ b, r.2.ownBlock = some b ∧ P b)) : RwSt P w w6 id r old v0 v' (rs ++ ys) := by
  obtain ⟨h0, h1, h2, h3, h4, h5⟩ := h
  have kp : ∀ (b : Nat) (ob : Obj), v.ownBlock ≠ some b → W.heap[b]? = some ob → w6.heap[b]? = some ob := fun b ob hne hb => (hg.block b (row_lt hb) (fun e => hne e.symm)).trans hb
  refine ⟨kp _ _ (own_ne h3 h0 (by decide)) h0, kp _ _ (own_ne h3 h1 (by decide)) h1, kp _ _ (own_ne h3 h2 (by decide)) h2, by rw [List.length_append, fl_append]; exact hown, fun r hr => ?_, ?_⟩
  · rcases List.mem_append.1 hr with hr | hr
    · exact h4 r hr
    · exact hy r hr
  · exact h5.grown hg h5.size (fun k hk => by have := (h3.lt k hk).1; omega)
/-- Behind the store of the row's slice into the box. -/
theorem RwSt.store {P : Nat → Prop} {w W : World} {id : Int} {r old : Chn} {v0 v : Value} {rs : List (Mnt × Value)} (h : RwSt P w W id r old v0 v rs) : RwSt P w (W.setCell ⟨w.heap.size, 6, none⟩ v) id r old v v rs := by
  obtain ⟨h0, h1, h2, h3, h4, h5⟩ := h
  refine ⟨heap_setCell_same W w.heap.size 6 _ _ v h0, ?_, ?_, own_set h3 h0 (by decide) 6 v, h4, h5.setCell (p := ⟨w.heap.size, 6, none⟩) (Nat.le_refl _) _⟩
  · rw [Below.heap_setCell _ _ _ _ (by show w.heap.size + 1 ≠ w.heap.size; omega)]; exact h1
  · rw [Below.heap_setCell _ _ _ _ (by show w.heap.size + 2 ≠ w.heap.size; omega)]; exact h2
theorem RwSt.setTo {P : Nat → Prop} {w W : World} {gr n c : Nat} {id : Int} {r old : Chn} {v0 : Value} {nw ol : List (Mnt × Value)} {x : Mnt × Value} (h : RwSt P w W id r old v0 (.slice (some ⟨gr, 0, none⟩) n c) (nw ++ x :: ol)) {tv : Value} {u : List Tgt} (hu : Tgts w tv u) (hup : u ≠ [] → ∃ b, tv.ownBlock = some b ∧ P b) :
    RwSt P w (W.setCell ⟨gr, nw.length * 6 + 5, none⟩ tv) id r old v0 (.slice (some ⟨gr, 0, none⟩) n c) (nw ++ (⟨x.1.fr, u⟩, tv) :: ol) := by
  obtain ⟨h0, h1, h2, h3, h4, h5⟩ := h
  have hgr0 : w.heap.size + 3 ≤ gr := (h3.lt gr rfl).1
  have hn : n = (nw ++ x :: ol).length := by
    obtain ⟨a', c', e⟩ := own_lt h3
    cases e; rfl
  refine ⟨?_, ?_, ?_, ?_, fun r hr => ?_, h5.setCell (p := ⟨gr, _, none⟩) (by show w.heap.size ≤ gr; omega) _⟩
  · rw [Below.heap_setCell _ _ _ _ (by show w.heap.size ≠ gr; omega)]; exact h0
  · rw [Below.heap_setCell _ _ _ _ (by show w.heap.size + 1 ≠ gr; omega)]; exact h1
  · rw [Below.heap_setCell _ _ _ _ (by show w.heap.size + 2 ≠ gr; omega)]; exact h2
  · subst hn
    have := (h3.stored (nw.length * 6 + 5) tv).1
    rw [fl_set mne mne6 nw ol x (⟨x.1.fr, u⟩, tv) 5 (by omega) tv rfl] at this
    rw [show (nw ++ (⟨x.1.fr, u⟩, tv) :: ol).length = (nw ++ x :: ol).length from by simp]
    exact this
  · rcases List.mem_append.1 hr with hr | hr
    · exact h4 r (by simp [hr])
    · rcases List.mem_cons.1 hr with rfl | hr
      · exact ⟨hu, hup⟩
      · exact h4 r (by simp [hr])
/-- The row with its unions. -/
theorem row_low {P : Nat → Prop} {w W : World} {base : Nat} {v : Value} {rs : List (Mnt × Value)} (h3 : W.ownsRow base 55 6 v rs.length (fl mne rs)) (hb : w.heap.size ≤ base) (h4 : ∀ r ∈ rs, Tgts w r.2 r.1.to ∧ (r.1.to ≠ [] → ∃ b, r.2.ownBlock = some b ∧ P b)) (h5 : Below w.heap.size w W) : MOwn W base (fun b => b < w.heap.size ∧ P b) v rs :=
  ⟨h3, fun r hr => ⟨(h4 r hr).1.below h5, fun hn => by
    obtain ⟨b, e1, e2⟩ := (h4 r hr).1.block hn
    obtain ⟨b', e1', e3⟩ := (h4 r hr).2 hn
    rw [e1] at e1'; cases e1'
    exact ⟨b, e1, ⟨e2, e3⟩, fun e => by have := (h3.lt b e).1; omega⟩⟩⟩
theorem RwSt.done {P : Nat → Prop} {w W W' : World} {id : Int} {r old : Chn} {v0 v : Value} {rs : List (Mnt × Value)} (h : RwSt P w W id r old v0 v rs) (hP : ∀ b, w.heap.size ≤ b → P b) (hg : W.grownBy W' (some (w.heap.size + 2))) : MIn W' P v (rs.map (·.1)) ∧ Below w.heap.size w W' := by
  obtain ⟨h0, h1, h2, h3, h4, h5⟩ := h
  exact ⟨((row_low h3 (by omega) h4 h5).grown hg (fun e => by omega) (own_ne h3 h2 (by decide))).inn (fun b h _ => h.2) (fun b hb => hP b (by omega)), grown_below h5 hg (by omega)⟩
set_option maxRecDepth 20000 in
set_option maxHeartbeats 4000000 in
theorem rmwith_any (P : Nat → Prop) (id : Int) (r : Chn) (v : Value) (ms : List Mnt) (old : Chn) (uv : Value) (u : List Tgt) (w : World) (hv0 : MIn w P v ms) (huv : Tgts w uv u) (hP : ∀ b, w.heap.size ≤ b → P b) (hup : u ≠ [] → ∃ b, uv.ownBlock = some b ∧ P b) (hl : ms.length ≤ 100000) :
    Calls Try.prog 57 #[nsv id r v, chv old, uv] w (NsSays P id r (Ns.put ms old u) w) := by
  have hv := hv0.mnts
  obtain ⟨rs, hrs, hts, ao, cp, rfl, hc, hnn, hcells0⟩ := hv0
  have hcells := fun a ha => (hcells0 a ha).2
  subst hrs
  rw [List.length_map] at hl
  obtain ⟨ua, un, uc, rfl⟩ := huv.form
  have HB := Lib.hid (Below.refl w.heap.size w)
  have HFI := Lib.hid (fun (W : World) (h : Below w.heap.size w W) => rmat_any id r (.slice ao rs.length cp) (rs.map (·.1)) old W (hv.below h) (by rw [List.length_map]; omega))
  have HUV := Lib.hid huv
  have HUP := Lib.hid hup
  have HPP := Lib.hid hP
  have HTS := Lib.hid hts
  have HCE := Lib.hid hcells
  have HNN := Lib.hid (fun h => show rs.length = 0 ∧ cp = 0 from ⟨by have := hnn h; omega, hnn h⟩)
  obtain ⟨PM, hPM⟩ : ∃ PM, Ns.put (rs.map (·.1)) old u = PM := ⟨_, rfl⟩
  have HPM := Lib.hid hPM
  rw [hPM]
  rw [show Ns.ix (fun t : Mnt => Ns.same t.fr old) (rs.map (·.1)) = Ns.find (rs.map (·.1)) old from rfl] at HFI
  obtain ⟨FI, hFI⟩ : ∃ FI, Ns.find (rs.map (·.1)) old = FI := ⟨_, rfl⟩
  rw [hFI] at HFI
  have HFE := Lib.hid hFI
  clear hv huv hPM hts hcells hnn hFI hcells0 hup hP
  unfold nsv chv at *
  obtain ⟨i0, hi0, hz0, hz1, hz2⟩ := info_parts (P := Try.prog) (e := 55) (z := .agg #[.int .i64 0, .int .i64 0, .int .i64 0, .string ByteArray.empty, .string ByteArray.empty, .slice none 0 0]) (size := 6) (bytes := 80) (by kernel_rfl)
  go_enter Try.func57, Try.ntmps57
  go_wp2_with fail
  with_reducible refine (HFI.out _ (((HB.out.alloc (Nat.le_refl _) _).alloc (by simp) _).alloc (by simp; omega) _)).mono ?_; rintro e w1 ⟨rfl, b1⟩
  obtain ⟨hr0, hr1, hr2, hb1⟩ := mafter3 b1
  have HS1 : Hid (RwSt P w (w1.alloc (.cells #[] 55)) id r old (.slice ao rs.length cp) (.slice (some ⟨w1.heap.size, 0, none⟩) 0 0) []) :=
    ⟨(Lib.alloc_old _ _ _ (row_lt hr0)).trans hr0, (Lib.alloc_old _ _ _ (row_lt hr1)).trans hr1, (Lib.alloc_old _ _ _ (row_lt hr2)).trans hr2,
      ⟨rfl, .inr ⟨w1.heap.size, 0, #[], rfl, by have := row_lt hr2; omega, heap_alloc_new w1 _, Nat.le_refl _, by unfold maxLen; omega, rfl, rfl⟩⟩, (fun r hr => nomatch hr), hb1.alloc hb1.size _⟩
  have hwsz : w.heap.size + 3 ≤ w1.heap.size := row_lt hr2
  obtain ⟨⟨q0, q1, q2, q3, q4, q5, q6⟩, ⟨y0, y1, y2, y3, y4, y5, y6⟩⟩ := ns_reads hr0
  have q6a := cell_next q6 ((Below.refl _ _).alloc (Nat.le_refl _) (.cells #[] 55))
  clear hr0 hr1 hr2 hb1 b1 HFI
  go_wp2_with (at_builtin; refine wpList_append_any _ rfl _ _ 24 rfl (w.heap.size + 3) 55 i0 (.agg #[.int .i64 0, .int .i64 0, .int .i64 0, .string ByteArray.empty, .string ByteArray.empty, .slice none 0 0]) 6 80 Try.underlying24 hi0 hz0 hz1 hz2 rfl (by decide) (.slice (some ⟨w1.heap.size, 0, none⟩) 0 0) 0 [] rfl ?pa0 ao rs.length cp (fl mne rs) rfl ?pan ?pa1 ?pa2 ?pa3 ?pa4 ?pa5 ?pa6 ?_)
  case pa0 => exact HS1.out.2.2.2.1
  case pan => exact fun h => HNN.out h
  case pa1 => exact fl_length mne mne6 rs
  case pa2 =>
    intro a ha j u hj
    obtain ⟨k1, k2⟩ := HCE.out a ha j u hj
    rw [HS1.out.2.2.2.2.2.cell (p := a.add j) k2]
    exact k1
  case pa3 => exact mnes1 (fun r hr => (HTS.out r hr).1.form)
  case pa4 => unfold maxLen; omega
  case pa5 => omega
  case pa6 => simp; omega
  intro v6 w6 hown6 hgrow6 hat6
  have HS6 := Lib.hid (RwSt.grow (ys := rs) HS1.out (by simpa [fl] using hown6) hgrow6 HTS.out)
  rw [List.nil_append] at HS6
  obtain ⟨a6, c6, rfl⟩ := own_lt hown6
  clear hown6 hgrow6 hat6 q6a q0 q1 q2 q3 q4 q5 q6 y0 y1 y2 y3 y4 y5 y6 HS1
  obtain ⟨⟨q0, q1, q2, q3, q4, q5, q6⟩, ⟨y0, y1, y2, y3, y4, y5, y6⟩⟩ := ns_reads HS6.out.1
  go_upto_region 3 with fail
  have HS7 := Lib.hid HS6.out.store
  generalize w6.setCell ⟨w.heap.size, 6, none⟩ (.slice a6 rs.length c6) = W7 at *
  clear q0 q1 q2 q3 q4 q5 q6 y0 y1 y2 y3 y4 y5 y6 HS6
  obtain ⟨⟨q0, q1, q2, q3, q4, q5, q6⟩, ⟨y0, y1, y2, y3, y4, y5, y6⟩⟩ := ns_reads HS7.out.1
  obtain ⟨o0, o1, o2, o3, o4⟩ := ch_reads HS7.out.2.1
  have hww : w.heap.size ≠ w.heap.size + 2 := by omega
  have hww2 : w.heap.size + 2 ≠ w.heap.size := by omega
  rcases Int.lt_or_le FI 0 with hfi | hfi
  · have HPUT := Lib.hid (show PM = (rs ++ [((⟨old, u⟩ : Mnt), (.slice ua un uc : Value))]).map (·.1) from by
      rw [← HPM.out, Ns.put_new u (by rw [HFE.out]; exact hfi), List.map_append]; rfl)
    have q6b := cell_next q6 ((Below.refl _ _).alloc (Nat.le_refl _) (.cells #[.int .i64 old.dev, .int .i64 old.id, .int .i64 old.fid, .string (T old.path), .string (T old.name), .slice ua un uc] 55))
    have HS8 := Lib.hid (HS7.out.next ((Below.refl _ _).alloc (Nat.le_refl _) (.cells #[.int .i64 old.dev, .int .i64 old.id, .int .i64 old.fid, .string (T old.path), .string (T old.name), .slice ua un uc] 55)))
    have hr8 := heap_alloc_new W7 (.cells #[.int .i64 old.dev, .int .i64 old.id, .int .i64 old.fid, .string (T old.path), .string (T old.name), .slice ua un uc] 55)
    have hc8 : Hid (∀ j u', (fl mne [((⟨old, u⟩ : Mnt), (.slice ua un uc : Value))])[j]? = some u' → (W7.alloc (.cells #[.int .i64 old.dev, .int .i64 old.id, .int .i64 old.fid, .string (T old.path), .string (T old.name), .slice ua un uc] 55)).cell? ⟨W7.heap.size, j, none⟩ = some u') := fun j u' hj => by
      rw [cell_of_row _ _ _ _ _ _ hr8]; simpa [fl, mne] using hj
    have hsz7 : w.heap.size + 3 ≤ W7.heap.size := row_lt HS7.out.2.2.1
    clear hr8
    go_wp2_with (at_builtin; refine wpList_append_own_at _ rfl _ _ 24 rfl (w.heap.size + 3) 55 i0 (.agg #[.int .i64 0, .int .i64 0, .int .i64 0, .string ByteArray.empty, .string ByteArray.empty, .slice none 0 0]) 6 80 Try.underlying24 hi0 hz0 hz1 hz2 rfl (by decide) (.slice a6 rs.length c6) rs.length (fl mne rs) rfl ?pb0 ⟨W7.heap.size, 0, none⟩ 1 1 (fl mne [((⟨old, u⟩ : Mnt), (.slice ua un uc : Value))]) rfl ?pb1 ?pb2 ?pb3 ?pb4 ?pb5 ?pb6 ?_)
    case pb0 => exact HS8.out.2.2.2.1
    case pb1 => rfl
    case pb2 =>
      intro j u' hj
      first
        | (rw [Addr.add_lit, Nat.zero_add]; exact hc8.out j u' hj)
        | simpa [fl, mne] using hj
    case pb3 => exact mnes1 (fun r hr => by rcases List.mem_singleton.1 hr with rfl; exact ⟨_, _, _, rfl⟩)
    case pb4 => unfold maxLen; omega
    case pb5 => omega
    case pb6 => simp; omega
    intro v9 w9 hown9 hgrow9 _ hat9
    have HS9 := Lib.hid (RwSt.grow (ys := [((⟨old, u⟩ : Mnt), (.slice ua un uc : Value))]) HS8.out hown9 hgrow9 (fun r hr => by rcases List.mem_singleton.1 hr with rfl; exact ⟨HUV.out, HUP.out⟩))
    obtain ⟨a9, c9, rfl⟩ := own_lt hown9
    clear hown9 hgrow9 hat9 q0 q1 q2 q3 q4 q5 q6 y0 y1 y2 y3 y4 y5 y6 o0 o1 o2 o3 o4 q6b
    obtain ⟨⟨q0, q1, q2, q3, q4, q5, q6⟩, ⟨y0, y1, y2, y3, y4, y5, y6⟩⟩ := ns_reads HS9.out.1
    go_upto_region 5 with fail
    have HSA := Lib.hid HS9.out.store
    generalize w9.setCell ⟨w.heap.size, 6, none⟩ (.slice a9 (rs.length + 1) c9) = WA at *
    clear q0 q1 q2 q3 q4 q5 q6 y0 y1 y2 y3 y4 y5 y6 HS9
    obtain ⟨⟨q0, q1, q2, q3, q4, q5, q6⟩, ⟨y0, y1, y2, y3, y4, y5, y6⟩⟩ := ns_reads HSA.out.1
    obtain ⟨⟨z0, z1, z2, z3, z4, z5, z6⟩, ⟨v0, v1, v2, v3, v4, v5, v6⟩⟩ := ns_reads HSA.out.2.2.1
    go_wp2_with fail
    have hz := ns_stored (.int .i64 id) (.int .i64 r.dev) (.int .i64 r.id) (.int .i64 r.fid) (.string (T r.path)) (.string (T r.name)) (.slice a9 (rs.length + 1) c9) HSA.out.2.2.1
    obtain ⟨⟨x0, x1, x2, x3, x4, x5, x6⟩, _⟩ := ns_reads hz.1
    have HD := Lib.hid (HSA.out.done HPP.out hz.2)
    exact bodyPost_ret (v := .agg #[.int .i64 id, .int .i64 r.dev, .int .i64 r.id, .int .i64 r.fid, .string (T r.path), .string (T r.name), .slice a9 (rs.length + 1) c9]) (by simp [results, Try.results57, go_sem, x0, x1, x2, x3, x4, x5, x6]) rfl (ns_says HPUT.out HD.out.1 HD.out.2)
  · obtain ⟨k, hk, e1, e2, _⟩ := Ns.find_at (show 0 ≤ Ns.find (rs.map (·.1)) old by rw [HFE.out]; exact hfi)
    rw [List.length_map] at hk
    have hFK : FI = k := by rw [← HFE.out]; exact e1
    subst hFK
    clear hfi e2
    obtain ⟨nw, x, ol, rfl, rfl⟩ := split_at rs k hk
    have HPUT := Lib.hid (show PM = (nw ++ ((⟨x.1.fr, u⟩ : Mnt), (.slice ua un uc : Value)) :: ol).map (·.1) from by
      rw [← HPM.out]
      rw [List.map_append, List.map_cons] at e1 ⊢
      rw [Ns.put_at u (by rw [List.length_map]; exact e1), List.map_append, List.map_cons])
    obtain ⟨gr, c, e, hb, hlt, rc, rf, htg⟩ := (row_low HS7.out.2.2.2.1 (by omega) HS7.out.2.2.2.2.1 HS7.out.2.2.2.2.2).read
    injection e with e3 e4 e5
    subst e3 e5
    have HS2 := Lib.hid (HS7.out.setTo HUV.out HUP.out)
    obtain ⟨ta, tn, tc, htv⟩ := htg.form
    rw [htv] at rc
    have hli : (nw.length : Int) < (nw ++ x :: ol).length := by simp; omega
    have hgr1 : gr ≠ w.heap.size := by omega
    have hgr2 : w.heap.size ≠ gr := by omega
    have hgr3 : gr ≠ w.heap.size + 2 := by omega
    have hgr4 : w.heap.size + 2 ≠ gr := by omega
    clear e1 e4 htv htg HB hl hk hc HFE HPM HCE HNN HTS
    generalize (nw ++ x :: ol).length = L at *
    obtain ⟨⟨z0, z1, z2, z3, z4, z5, z6⟩, ⟨v0, v1, v2, v3, v4, v5, v6⟩⟩ := ns_reads HS7.out.2.2.1
    go_wp2_with fail
    have hz := ns_stored (.int .i64 id) (.int .i64 r.dev) (.int .i64 r.id) (.int .i64 r.fid) (.string (T r.path)) (.string (T r.name)) (.slice (some ⟨gr, 0, none⟩) L c6) HS2.out.2.2.1
    obtain ⟨⟨x0, x1, x2, x3, x4, x5, x6⟩, _⟩ := ns_reads hz.1
    have HD := Lib.hid (HS2.out.done HPP.out hz.2)
    exact bodyPost_ret (v := .agg #[.int .i64 id, .int .i64 r.dev, .int .i64 r.id, .int .i64 r.fid, .string (T r.path), .string (T r.name), .slice (some ⟨gr, 0, none⟩) L c6]) (by simp [results, Try.results57, go_sem, x0, x1, x2, x3, x4, x5, x6]) rfl (ns_says HPUT.out HD.out.1 HD.out.2)
end Go.Proofs.Ytganenaaglfdnaa
