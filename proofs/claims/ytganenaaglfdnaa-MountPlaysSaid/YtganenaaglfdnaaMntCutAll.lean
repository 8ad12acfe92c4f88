/- What CutAll returns, of both sides: Ns.cutAll. Conditions: the slices hold the given lists; at most 10^5 mounts, each of at most 10^6 targets. -/
import Derived.Test.YtganenaaglfdnaaMntRWith
set_option linter.unusedVariables false
set_option linter.unusedSimpArgs false
namespace Go.Proofs.Ytganenaaglfdnaa
open Go.RowKit
/-- A name space with the given mounts, and an error, are returned; the blocks pass P. -/
def NsErr (P : Nat → Prop) (id : Int) (r : Chn) (p : List Mnt × Int) (w : World) (e : Ending) (w' : World) : Prop := ∃ a n c, e = .returned (.tuple #[nsv id r (.slice a n c), .int .i64 p.2]) ∧ MIn w' P (.slice a n c) p.1 ∧ Below w.heap.size w w'
theorem ns_err {P : Nat → Prop} {id : Int} {r : Chn} {p : List Mnt × Int} {ms' : List Mnt} {E : Int} {w w' : World} {a : Option Addr} {n c : Nat} (he : p = (ms', E)) (h1 : MIn w' P (.slice a n c) ms') (h2 : Below w.heap.size w w') :
    NsErr P id r p w (.returned (.tuple #[.agg #[.int .i64 id, .int .i64 r.dev, .int .i64 r.id, .int .i64 r.fid, .string (T r.path), .string (T r.name), .slice a n c], .int .i64 E])) w' := by
  subst he; exact ⟨a, n, c, rfl, h1, h2⟩
theorem WiSt.del {P : Nat → Prop} {w W W' : World} {g gr n c n' c' : Nat} {id : Int} {r old : Chn} {rs rs' : List (Mnt × Value)} (h : WiSt P w W g id r old (.slice (some ⟨gr, 0, none⟩) n c) rs) (hg : W.grownBy W' (some gr))
    (hm : MOwn W' (w.heap.size + 3) (fun b => b ≠ g ∧ b ≠ w.heap.size + 2 ∧ P b) (.slice (some ⟨gr, 0, none⟩) n' c') rs') :
    WiSt P w (W'.setCell ⟨g, 6, none⟩ (.slice (some ⟨gr, 0, none⟩) n' c')) g id r old (.slice (some ⟨gr, 0, none⟩) n' c') rs' ∧ W'.heap[g]? = W.heap[g]? := by
  obtain ⟨h0, h1, h2, h3, h4, h5⟩ := h
  have hgr0 : w.heap.size + 3 ≤ gr := (h4.1.lt gr rfl).1
  have kp : ∀ (b : Nat) (ob : Obj), gr ≠ b → W.heap[b]? = some ob → W'.heap[b]? = some ob := fun b ob hne hb => (hg.block b (row_lt hb) (fun e => hne (by cases e; rfl))).trans hb
  have hng : gr ≠ g := fun e => own_ne h4.1 h2 (by decide) (by rw [← e]; rfl)
  have g0 := kp _ _ (by omega) h0
  have g1 := kp _ _ (by omega) h1
  have g2 := kp _ _ hng h2
  refine ⟨⟨?_, ?_, heap_setCell_same W' g 6 _ _ _ g2, h3, hm.box g2 (by decide) (fun e => e.1 rfl) 6 _, (h5.grown hg h5.size (fun k hk => by cases hk; omega)).setCell (p := ⟨g, 6, none⟩) (by show w.heap.size ≤ g; omega) _⟩, g2.trans h2.symm⟩
  · rw [Below.heap_setCell _ _ _ _ (by show w.heap.size + 1 ≠ g; omega)]; exact g0
  · rw [Below.heap_setCell _ _ _ _ (by show w.heap.size + 2 ≠ g; omega)]; exact g1
theorem erase_map {α β : Type} (f : α → β) : ∀ (l : List α) (k : Nat), (l.map f).eraseIdx k = (l.eraseIdx k).map f
  | [], _ => rfl
  | _ :: _, 0 => rfl
  | x :: l, k + 1 => by simp only [List.map_cons, List.eraseIdx_cons_succ, erase_map f l k]
set_option maxRecDepth 20000 in
set_option maxHeartbeats 4000000 in
theorem mcutall_any (P : Nat → Prop) (id : Int) (r : Chn) (v : Value) (ms : List Mnt) (old : Chn) (w : World) (hv : Mnts w v ms) (hP : ∀ b, w.heap.size ≤ b → P b) (hl : ms.length ≤ 100000) (hu : ∀ m ∈ ms, m.to.length ≤ 1000000) :
    Calls Try.prog 29 #[nsv id r v, chv old] w (NsErr P id r (Ns.cutAll ms old) w) := by
  obtain ⟨ao, n, cp, rfl⟩ := hv.form
  have HB := Lib.hid (Below.refl w.heap.size w)
  have HC := Lib.hid (fun (W : World) (h : Below w.heap.size w W) => mcopy_any id r (.slice ao n cp) ms id W (hv.below h) (by omega) hu)
  have HFI := Lib.hid (fun (W : World) (h : Below w.heap.size w W) => find_any id r (.slice ao n cp) ms old W (hv.below h) (by omega))
  obtain ⟨PM, hPM⟩ : ∃ PM, Ns.cutAll ms old = PM := ⟨_, rfl⟩
  have HPM := Lib.hid hPM
  obtain ⟨FI, hFI⟩ : ∃ FI, Ns.find ms old = FI := ⟨_, rfl⟩
  have HFE := Lib.hid hFI
  rw [hFI] at HFI
  rw [hPM]
  have HPP := Lib.hid hP
  clear hv hu hPM hFI hP
  unfold nsv chv at *
  go_enter Try.func29, Try.ntmps29
  go_wp2_with fail
  refine (HC.out _ (((HB.out.alloc (Nat.le_refl _) _).alloc (by simp) _).alloc (by simp; omega) _)).mono ?_; rintro e w1 ⟨v1, rfl, hm, b1⟩
  obtain ⟨a1, c1, rfl⟩ := hm.form
  obtain ⟨hr0, hr1, hr2, hb1⟩ := mafter3 b1
  obtain ⟨rs, hrs, hst⟩ := WiSt.start (P := P) (id := id) (r := r) hr1 hr2 hb1 hm (by simp) HPP.out
  subst hrs
  have HST := Lib.hid hst
  have HN0 := Lib.hid ((Lib.alloc_old _ (.cells #[.int .i64 id, .int .i64 r.dev, .int .i64 r.id, .int .i64 r.fid, .string (T r.path), .string (T r.name), .slice a1 (rs.map (·.1)).length c1] 26) _ (row_lt hr0)).trans hr0)
  clear hr0 hr1 hr2 hb1 hm b1 hst HC
  rw [List.length_map] at *
  go_upto_region 2 with fail
  generalize w1.alloc (.cells #[.int .i64 id, .int .i64 r.dev, .int .i64 r.id, .int .i64 r.fid, .string (T r.path), .string (T r.name), .slice a1 rs.length c1] 26) = W2 at *
  generalize w1.heap.size = g9 at *
  obtain ⟨⟨q0, q1, q2, q3, q4, q5, q6⟩, _⟩ := ns_reads HN0.out
  obtain ⟨o0, o1, o2, o3, o4⟩ := ch_reads HST.out.1
  have hg9 : w.heap.size + 2 ≠ g9 := by have := HST.out.2.2.2.1; omega
  have hg9' : g9 ≠ w.heap.size + 2 := fun e => hg9 e.symm
  have HBW := Lib.hid HST.out.2.2.2.2.2
  go_wp2_with fail
  with_reducible refine (HFI.out _ HBW.out).mono ?_; rintro e w3 ⟨rfl, b3⟩
  have HST3 := Lib.hid (HST.out.next b3)
  clear b3 q0 q1 q2 q3 q4 q5 q6 o0 o1 o2 o3 o4 HN0 HST HFI
  obtain ⟨⟨q0, q1, q2, q3, q4, q5, q6⟩, ⟨y0, y1, y2, y3, y4, y5, y6⟩⟩ := ns_reads HST3.out.2.2.1
  obtain ⟨⟨z0, z1, z2, z3, z4, z5, z6⟩, ⟨v0, v1, v2, v3, v4, v5, v6⟩⟩ := ns_reads HST3.out.2.1
  rcases Int.lt_or_le FI 0 with hfi | hfi
  · have HPUT := Lib.hid (show PM = (rs.map (·.1), 45) from by rw [← HPM.out]; unfold Ns.cutAll; rw [if_pos (by rw [HFE.out]; exact hfi)])
    go_wp2_with fail
    have hz := ns_stored (.int .i64 id) (.int .i64 r.dev) (.int .i64 r.id) (.int .i64 r.fid) (.string (T r.path)) (.string (T r.name)) (.slice a1 rs.length c1) HST3.out.2.1
    obtain ⟨⟨x0, x1, x2, x3, x4, x5, x6⟩, _⟩ := ns_reads hz.1
    have HD := Lib.hid (HST3.out.done HPP.out hz.2)
    exact bodyPost_ret (v := .tuple #[.agg #[.int .i64 id, .int .i64 r.dev, .int .i64 r.id, .int .i64 r.fid, .string (T r.path), .string (T r.name), .slice a1 rs.length c1], .int .i64 45]) (by simp [results, Try.results29, go_sem, x0, x1, x2, x3, x4, x5, x6]) rfl (ns_err HPUT.out HD.out.1 HD.out.2)
  · obtain ⟨k, hkm, e1, e2, e3⟩ := Ns.find_at (show 0 ≤ Ns.find (rs.map (·.1)) old by rw [HFE.out]; exact hfi)
    have hk : k < rs.length := by rw [List.length_map] at hkm; exact hkm
    have hFK : FI = k := by rw [← HFE.out]; exact e1
    subst hFK
    have HPUT := Lib.hid (show PM = ((rs.eraseIdx k).map (·.1), 0) from by
      rw [← HPM.out]; unfold Ns.cutAll
      rw [HFE.out, if_neg (by omega), show ((k : Int)).toNat = k from by omega, erase_map])
    clear hfi e1 e2 e3 hkm
    have HDL := Lib.hid (mdel_any (.slice a1 rs.length c1) rs k (w.heap.size + 3) _ w3 HST3.out.2.2.2.2.1 hk (by omega))
    go_wp2_with fail
    refine HDL.out.mono ?_; rintro e w4 ⟨gr, c4, ev, rfl, hm4, hg4⟩
    cases ev
    obtain ⟨hs4, he4⟩ := HST3.out.del hg4 hm4
    have HST4 := Lib.hid hs4
    obtain ⟨⟨p0, p1, p2, p3, p4, p5, p6⟩, ⟨t0, t1, t2, t3, t4, t5, t6⟩⟩ := ns_reads (he4.trans HST3.out.2.2.1)
    clear hs4 he4 hm4 hg4 HDL
    go_upto_region 6 with fail
    generalize w4.setCell ⟨g9, 6, none⟩ (.slice (some ⟨gr, 0, none⟩) (rs.length - 1) c1) = W5 at *
    clear q0 q1 q2 q3 q4 q5 q6 y0 y1 y2 y3 y4 y5 y6 z0 z1 z2 z3 z4 z5 z6 v0 v1 v2 v3 v4 v5 v6 p0 p1 p2 p3 p4 p5 p6 t0 t1 t2 t3 t4 t5 t6
    obtain ⟨⟨q0, q1, q2, q3, q4, q5, q6⟩, ⟨y0, y1, y2, y3, y4, y5, y6⟩⟩ := ns_reads HST4.out.2.2.1
    obtain ⟨⟨z0, z1, z2, z3, z4, z5, z6⟩, ⟨v0, v1, v2, v3, v4, v5, v6⟩⟩ := ns_reads HST4.out.2.1
    go_wp2_with fail
    have hz := ns_stored (.int .i64 id) (.int .i64 r.dev) (.int .i64 r.id) (.int .i64 r.fid) (.string (T r.path)) (.string (T r.name)) (.slice (some ⟨gr, 0, none⟩) (rs.length - 1) c1) HST4.out.2.1
    obtain ⟨⟨x0, x1, x2, x3, x4, x5, x6⟩, _⟩ := ns_reads hz.1
    have HD := Lib.hid (HST4.out.done HPP.out hz.2)
    exact bodyPost_ret (v := .tuple #[.agg #[.int .i64 id, .int .i64 r.dev, .int .i64 r.id, .int .i64 r.fid, .string (T r.path), .string (T r.name), .slice (some ⟨gr, 0, none⟩) (rs.length - 1) c1], .int .i64 0]) (by simp [results, Try.results29, go_sem, x0, x1, x2, x3, x4, x5, x6]) rfl (ns_err HPUT.out HD.out.1 HD.out.2)
end Go.Proofs.Ytganenaaglfdnaa
