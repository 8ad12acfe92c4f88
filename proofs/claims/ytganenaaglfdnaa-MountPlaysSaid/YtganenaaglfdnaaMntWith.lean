/- What with returns, of both sides: Ns.put. Conditions: the slices hold the given lists; at most 10^6 mounts, each of at most 10^6 targets. -/
import Derived.Test.YtganenaaglfdnaaMntDel
import Derived.Test.YtganenaaglfdnaaMntIn
import Derived.Maps.AppendAt
set_option linter.unusedVariables false
set_option linter.unusedSimpArgs false
namespace Go.Proofs.Ytganenaaglfdnaa
open Go.RowKit
/-- A name space with the given mounts is returned; their blocks pass P. -/
def NsSays (P : Nat → Prop) (id : Int) (r : Chn) (ms : List Mnt) (w : World) (e : Ending) (w' : World) : Prop := ∃ a n c, e = .returned (nsv id r (.slice a n c)) ∧ MIn w' P (.slice a n c) ms ∧ Below w.heap.size w w'
theorem ns_says {P : Nat → Prop} {id : Int} {r : Chn} {ms ms' : List Mnt} {w w' : World} {a : Option Addr} {n c : Nat} (he : ms = ms') (h1 : MIn w' P (.slice a n c) ms') (h2 : Below w.heap.size w w') :
    NsSays P id r ms w (.returned (.agg #[.int .i64 id, .int .i64 r.dev, .int .i64 r.id, .int .i64 r.fid, .string (T r.path), .string (T r.name), .slice a n c])) w' := by
  subst he; exact ⟨a, n, c, rfl, h1, h2⟩
theorem MOwn.push {W w6 : World} {base : Nat} {P : Nat → Prop} {v v' : Value} {rs : List (Mnt × Value)} (h : MOwn W base P v rs) {y : Mnt × Value} (hown : w6.ownsRow base 55 6 v' (rs.length + 1) (fl mne rs ++ fl mne [y])) (hg : W.grownBy w6 v.ownBlock)
    (hat : v'.ownBlock = v.ownBlock ∨ v'.ownBlock = some W.heap.size) (hy : Tgts W y.2 y.1.to) (hyp : y.1.to ≠ [] → ∃ b, y.2.ownBlock = some b ∧ P b ∧ v.ownBlock ≠ some b) : MOwn w6 base P v' (rs ++ [y]) := by
  have key : ∀ r : Mnt × Value, Tgts W r.2 r.1.to → (r.1.to ≠ [] → ∃ b, r.2.ownBlock = some b ∧ P b ∧ v.ownBlock ≠ some b) → Tgts w6 r.2 r.1.to ∧ (r.1.to ≠ [] → ∃ b, r.2.ownBlock = some b ∧ P b ∧ v'.ownBlock ≠ some b) := fun r h1 h2 => by
    refine ⟨h1.keep hg.size (fun b hb hn => ?_), fun hn => ?_⟩
    · obtain ⟨b', e1, e2, e3⟩ := h2 hn
      rw [hb] at e1; cases e1
      obtain ⟨b', e1', hlt⟩ := h1.block hn
      rw [hb] at e1'; cases e1'
      exact hg.block b hlt (fun e => e3 e.symm)
    · obtain ⟨b', e1, e2, e3⟩ := h2 hn
      obtain ⟨b'', e1', hlt⟩ := h1.block hn
      rw [e1] at e1'; cases e1'
      refine ⟨b', e1, e2, ?_⟩
      rcases hat with hat | hat
      · rw [hat]; exact e3
      · rw [hat]; intro e; cases e; omega
  refine ⟨by rw [fl_append, List.length_append]; exact hown, fun r hr => ?_⟩
  rcases List.mem_append.1 hr with hr | hr
  · exact key r (h.2 r hr).1 (h.2 r hr).2
  · rcases List.mem_singleton.1 hr with rfl
    exact key _ hy hyp
theorem split_at {α : Type} (l : List α) (k : Nat) (h : k < l.length) : ∃ a x b, l = a ++ x :: b ∧ a.length = k :=
  ⟨l.take k, l[k], l.drop (k + 1), by rw [List.getElem_cons_drop, List.take_append_drop], by rw [List.length_take]; omega⟩
/-- What with's box and row are behind Copy. -/
def WiSt (P : Nat → Prop) (w W : World) (g : Nat) (id : Int) (r old : Chn) (v : Value) (rs : List (Mnt × Value)) : Prop :=
  W.heap[w.heap.size + 1]? = some (.cells #[.int .i64 old.dev, .int .i64 old.id, .int .i64 old.fid, .string (T old.path), .string (T old.name)] 23 (0, 0)) ∧
  W.heap[w.heap.size + 2]? = some (.cells #[.int .i64 0, .int .i64 0, .int .i64 0, .int .i64 0, .string ⟨#[]⟩, .string ⟨#[]⟩, .slice none 0 0] 26 (0, 0)) ∧
  W.heap[g]? = some (.cells #[.int .i64 id, .int .i64 r.dev, .int .i64 r.id, .int .i64 r.fid, .string (T r.path), .string (T r.name), v] 26 (0, 0)) ∧ w.heap.size + 3 ≤ g ∧
  MOwn W (w.heap.size + 3) (fun b => b ≠ g ∧ b ≠ w.heap.size + 2 ∧ P b) v rs ∧ Below w.heap.size w W
theorem WiSt.next {P : Nat → Prop} {w W W' : World} {g : Nat} {id : Int} {r old : Chn} {v : Value} {rs : List (Mnt × Value)} (h : WiSt P w W g id r old v rs) (hb : Below W.heap.size W W') : WiSt P w W' g id r old v rs := by
  obtain ⟨h0, h1, h2, h3, h4, h5⟩ := h
  exact ⟨(hb.block _ (row_lt h0)).trans h0, (hb.block _ (row_lt h1)).trans h1, (hb.block _ (row_lt h2)).trans h2, h3, h4.below hb, bnext h5 hb⟩
theorem WiSt.start {P : Nat → Prop} {w w1 : World} {id : Int} {r old : Chn} {v : Value} {ms : List Mnt} {base : Nat}
    (h0 : w1.heap[w.heap.size + 1]? = some (.cells #[.int .i64 old.dev, .int .i64 old.id, .int .i64 old.fid, .string (T old.path), .string (T old.name)] 23 (0, 0)))
    (h1 : w1.heap[w.heap.size + 2]? = some (.cells #[.int .i64 0, .int .i64 0, .int .i64 0, .int .i64 0, .string ⟨#[]⟩, .string ⟨#[]⟩, .slice none 0 0] 26 (0, 0)))
    (hb : Below w.heap.size w w1) (hm : MList w1 base (base ≤ ·) v ms) (hbase : w.heap.size + 3 ≤ base) (hP : ∀ b, w.heap.size ≤ b → P b) :
    ∃ rs : List (Mnt × Value), rs.map (·.1) = ms ∧ WiSt P w (w1.alloc (.cells #[.int .i64 id, .int .i64 r.dev, .int .i64 r.id, .int .i64 r.fid, .string (T r.path), .string (T r.name), v] 26)) w1.heap.size id r old v rs := by
  obtain ⟨rs, e, hm⟩ := hm
  have hlt := row_lt h1
  have hal : Below w1.heap.size w1 (w1.alloc (.cells #[.int .i64 id, .int .i64 r.dev, .int .i64 r.id, .int .i64 r.fid, .string (T r.path), .string (T r.name), v] 26)) := (Below.refl _ _).alloc (Nat.le_refl _) _
  exact ⟨rs, e, (hal.block _ (row_lt h0)).trans h0, (hal.block _ hlt).trans h1, heap_alloc_new _ _, by omega, (hm.weak hbase (fun b hb hlt => ⟨by omega, by omega, hP b (by omega)⟩)).below hal, bnext hb hal⟩
theorem WiSt.push {P : Nat → Prop} {w W w6 : World} {g : Nat} {id : Int} {r old : Chn} {v v' : Value} {rs : List (Mnt × Value)} {o : Obj} (h : WiSt P w W g id r old v rs)
    (hown : w6.ownsRow (w.heap.size + 3) 55 6 v' (rs.length + 1) (fl mne rs ++ fl mne [(⟨old, []⟩, .slice none 0 0)])) (hg : (W.alloc o).grownBy w6 v.ownBlock) (hat : v'.ownBlock = v.ownBlock ∨ v'.ownBlock = some (W.heap.size + 1)) :
    WiSt P w (w6.setCell ⟨g, 6, none⟩ v') g id r old v' (rs ++ [(⟨old, []⟩, .slice none 0 0)]) := by
  obtain ⟨h0, h1, h2, h3, h4, h5⟩ := h
  have hal : Below W.heap.size W (W.alloc o) := (Below.refl _ _).alloc (Nat.le_refl _) _
  have hm := (h4.below hal).push hown hg (by simpa using hat) (tgts_nil _) (fun hn => absurd rfl hn)
  have kp : ∀ (b : Nat) (ob : Obj), v.ownBlock ≠ some b → W.heap[b]? = some ob → w6.heap[b]? = some ob := fun b ob hne hb =>
    (hg.block b (by have := row_lt hb; simp; omega) (fun e => hne e.symm)).trans ((hal.block b (row_lt hb)).trans hb)
  have g0 := kp _ _ (own_ne h4.1 h0 (by decide)) h0
  have g1 := kp _ _ (own_ne h4.1 h1 (by decide)) h1
  have g2 := kp _ _ (own_ne h4.1 h2 (by decide)) h2
  refine ⟨?_, ?_, heap_setCell_same w6 g 6 _ _ v' g2, h3, hm.box g2 (by decide) (fun e => e.1 rfl) 6 v', ?_⟩
  · rw [Below.heap_setCell _ _ _ _ (by show w.heap.size + 1 ≠ g; omega)]; exact g0
  · rw [Below.heap_setCell _ _ _ _ (by show w.heap.size + 2 ≠ g; omega)]; exact g1
  · exact ((h5.alloc h5.size o).grown hg (by have := h5.size; simp; omega) (fun k hk => by have := (h4.1.lt k hk).1; omega)).setCell (p := ⟨g, 6, none⟩) (by show w.heap.size ≤ g; omega) _
theorem WiSt.setTo {P : Nat → Prop} {w W : World} {g gr n c : Nat} {id : Int} {r old : Chn} {nw ol : List (Mnt × Value)} {x : Mnt × Value} (h : WiSt P w W g id r old (.slice (some ⟨gr, 0, none⟩) n c) (nw ++ x :: ol)) {tv : Value} {u : List Tgt} (hu : Tgts w tv u) (hup : u ≠ [] → ∃ b, tv.ownBlock = some b ∧ P b) :
    WiSt P w (W.setCell ⟨gr, nw.length * 6 + 5, none⟩ tv) g id r old (.slice (some ⟨gr, 0, none⟩) n c) (nw ++ (⟨x.1.fr, u⟩, tv) :: ol) := by
  obtain ⟨h0, h1, h2, h3, h4, h5⟩ := h
  have hgr0 : w.heap.size + 3 ≤ gr := (h4.1.lt gr rfl).1
  have hng : gr ≠ g := fun e => own_ne h4.1 h2 (by decide) (by rw [← e]; rfl)
  have hs := h4.setTo (hu.below h5) (fun hn => by
    obtain ⟨b, e1, e2⟩ := hu.block hn
    obtain ⟨b', e1', e3⟩ := hup hn
    rw [e1] at e1'; cases e1'
    exact ⟨b, e1, ⟨by omega, by omega, e3⟩, by omega⟩)
  refine ⟨?_, ?_, ?_, h3, hs, h5.setCell (p := ⟨gr, _, none⟩) (by show w.heap.size ≤ gr; omega) _⟩
  · rw [Below.heap_setCell _ _ _ _ (by show w.heap.size + 1 ≠ gr; omega)]; exact h0
  · rw [Below.heap_setCell _ _ _ _ (by show w.heap.size + 2 ≠ gr; omega)]; exact h1
  · rw [Below.heap_setCell _ _ _ _ (by show g ≠ gr; omega)]; exact h2
theorem WiSt.done {P : Nat → Prop} {w W W' : World} {g : Nat} {id : Int} {r old : Chn} {v : Value} {rs : List (Mnt × Value)} (h : WiSt P w W g id r old v rs) (hP : ∀ b, w.heap.size ≤ b → P b) (hg : W.grownBy W' (some (w.heap.size + 2))) : MIn W' P v (rs.map (·.1)) ∧ Below w.heap.size w W' := by
  obtain ⟨h0, h1, h2, h3, h4, h5⟩ := h
  exact ⟨(h4.grown hg (fun e => e.2.1 rfl) (own_ne h4.1 h1 (by decide))).inn (fun b h _ => h.2.2) (fun b hb => hP b (by omega)), grown_below h5 hg (by omega)⟩
namespace Ns
theorem put_new {ms : List Mnt} {old : Chn} (u : List Tgt) (h : find ms old < 0) : put ms old u = ms ++ [⟨old, u⟩] := by unfold put; rw [if_pos h]
theorem put_at {a b : List Mnt} {m : Mnt} {old : Chn} (u : List Tgt) (h : find (a ++ m :: b) old = a.length) : put (a ++ m :: b) old u = a ++ ⟨m.fr, u⟩ :: b := by
  unfold put; rw [h, if_neg (by omega), show ((a.length : Int)).toNat = a.length from by omega, modify_meet]
end Ns
set_option maxRecDepth 20000 in
set_option maxHeartbeats 4000000 in
theorem mwith_any (P : Nat → Prop) (id : Int) (r : Chn) (v : Value) (ms : List Mnt) (ix : Nat) (old : Chn) (uv : Value) (u : List Tgt) (w : World) (hv : Mnts w v ms) (huv : Tgts w uv u) (hP : ∀ b, w.heap.size ≤ b → P b) (hup : u ≠ [] → ∃ b, uv.ownBlock = some b ∧ P b) (hl : ms.length ≤ 100000) (hu : ∀ m ∈ ms, m.to.length ≤ 1000000)
    (hix : (ix < ms.length ∧ Ns.find ms old = ix) ∨ (ix = ms.length ∧ Ns.find ms old < 0)) :
    Calls Try.prog 50 #[nsv id r v, .int .i64 (ix : Int), chv old, uv] w (NsSays P id r (Ns.put ms old u) w) := by
  obtain ⟨ao, n, cp, rfl⟩ := hv.form
  obtain ⟨ua, un, uc, rfl⟩ := huv.form
  have HB := Lib.hid (Below.refl w.heap.size w)
  have HC := Lib.hid (fun (W : World) (h : Below w.heap.size w W) => mcopy_any id r (.slice ao n cp) ms id W (hv.below h) (by omega) hu)
  have HUV := Lib.hid huv
  have HUP := Lib.hid hup
  have HPP := Lib.hid hP
  obtain ⟨PM, hPM⟩ : ∃ PM, Ns.put ms old u = PM := ⟨_, rfl⟩
  have HPM := Lib.hid hPM
  rw [hPM]
  clear hv huv hu hPM hup hP
  unfold nsv chv at *
  go_enter Try.func50, Try.ntmps50
  go_wp2_with fail
  refine (HC.out _ (((HB.out.alloc (Nat.le_refl _) _).alloc (by simp) _).alloc (by simp; omega) _)).mono ?_; rintro e w1 ⟨v1, rfl, hm, b1⟩
  obtain ⟨a1, c1, rfl⟩ := hm.form
  obtain ⟨hr0, hr1, hr2, hb1⟩ := mafter3 b1
  obtain ⟨rs, hrs, hst⟩ := WiSt.start (P := P) (id := id) (r := r) hr1 hr2 hb1 hm (by simp) HPP.out
  subst hrs
  have HST := Lib.hid hst
  clear hr0 hr1 hr2 hb1 hm b1 hst HC
  rw [List.length_map] at *
  go_upto_region 2 with fail
  generalize w1.alloc (.cells #[.int .i64 id, .int .i64 r.dev, .int .i64 r.id, .int .i64 r.fid, .string (T r.path), .string (T r.name), .slice a1 rs.length c1] 26) = W2 at *
  generalize w1.heap.size = g9 at *
  obtain ⟨⟨q0, q1, q2, q3, q4, q5, q6⟩, ⟨y0, y1, y2, y3, y4, y5, y6⟩⟩ := ns_reads HST.out.2.2.1
  obtain ⟨o0, o1, o2, o3, o4⟩ := ch_reads HST.out.1
  have hg9 : w.heap.size + 2 ≠ g9 := by have := HST.out.2.2.2.1; omega
  have hg9' : g9 ≠ w.heap.size + 2 := fun e => hg9 e.symm
  rcases hix with ⟨hix, hfi⟩ | ⟨hix, hfi⟩
  · obtain ⟨nw, x, ol, rfl, rfl⟩ := split_at rs ix hix
    have HPUT := Lib.hid (show PM = (nw ++ ((⟨x.1.fr, u⟩ : Mnt), (.slice ua un uc : Value)) :: ol).map (·.1) from by
      rw [← HPM.out]
      rw [List.map_append, List.map_cons] at hfi ⊢
      rw [Ns.put_at u (by rw [List.length_map]; exact hfi), List.map_append, List.map_cons])
    obtain ⟨gr, c, e, hb, hlt, rc, rf, htg⟩ := HST.out.2.2.2.2.1.read
    injection e with e1 e2 e3
    subst e1 e3
    have HS2 := Lib.hid (HST.out.setTo HUV.out HUP.out)
    obtain ⟨ta, tn, tc, htv⟩ := htg.form
    rw [htv] at rc
    have hni : ¬ (nw.length : Int) = (nw ++ x :: ol).length := by simp; omega
    have hnb : ((nw.length : Int) == ((nw ++ x :: ol).length : Int)) = false := beq_eq_false_iff_ne.2 hni
    have hli : (nw.length : Int) < (nw ++ x :: ol).length := by simp; omega
    have hgr1 : gr ≠ g9 := fun e => own_ne HST.out.2.2.2.2.1.1 HST.out.2.2.1 (by decide) (by rw [← e]; rfl)
    have hgr2 : g9 ≠ gr := fun e => hgr1 e.symm
    have hgr3 : gr ≠ w.heap.size + 2 := by omega
    have hgr4 : w.heap.size + 2 ≠ gr := by omega
    clear hfi e2 htv htg HB hl hix
    generalize (nw ++ x :: ol).length = L at *
    obtain ⟨⟨z0, z1, z2, z3, z4, z5, z6⟩, ⟨v0, v1, v2, v3, v4, v5, v6⟩⟩ := ns_reads HST.out.2.1
    go_wp2_with fail
    have hz := ns_stored (.int .i64 id) (.int .i64 r.dev) (.int .i64 r.id) (.int .i64 r.fid) (.string (T r.path)) (.string (T r.name)) (.slice (some ⟨gr, 0, none⟩) L c1) HS2.out.2.1
    obtain ⟨⟨x0, x1, x2, x3, x4, x5, x6⟩, _⟩ := ns_reads hz.1
    have HD := Lib.hid (HS2.out.done HPP.out hz.2)
    exact bodyPost_ret (v := .agg #[.int .i64 id, .int .i64 r.dev, .int .i64 r.id, .int .i64 r.fid, .string (T r.path), .string (T r.name), .slice (some ⟨gr, 0, none⟩) L c1]) (by simp [results, Try.results50, go_sem, x0, x1, x2, x3, x4, x5, x6]) rfl (ns_says HPUT.out HD.out.1 HD.out.2)
  · subst hix
    have HPUT := Lib.hid (show PM = (rs ++ [((⟨old, u⟩ : Mnt), (.slice ua un uc : Value))]).map (·.1) from by
      rw [← HPM.out, Ns.put_new u hfi, List.map_append]; rfl)
    clear hfi HB
    obtain ⟨i0, hi0, hz0, hz1, hz2⟩ := info_parts (P := Try.prog) (e := 55) (z := .agg #[.int .i64 0, .int .i64 0, .int .i64 0, .string ByteArray.empty, .string ByteArray.empty, .slice none 0 0]) (size := 6) (bytes := 80) (by kernel_rfl)
    go_wp2_with (at_builtin; refine wpList_append_own_at _ rfl _ _ 24 rfl (w.heap.size + 3) 55 i0 (.agg #[.int .i64 0, .int .i64 0, .int .i64 0, .string ByteArray.empty, .string ByteArray.empty, .slice none 0 0]) 6 80 Try.underlying24 hi0 hz0 hz1 hz2 rfl (by decide) (.slice a1 rs.length c1) rs.length (fl mne rs) rfl ?pa0 ⟨W2.heap.size, 0, none⟩ 1 1 (fl mne [((⟨old, []⟩ : Mnt), (.slice none 0 0 : Value))]) rfl ?pa1 ?pa2 ?pa3 ?pa4 ?pa5 ?pa6 ?_)
    case pa0 => exact HST.out.2.2.2.2.1.1.alloc _
    case pa1 => rfl
    case pa2 =>
      intro j u hj
      have hr := heap_alloc_new W2 (.cells #[.int .i64 old.dev, .int .i64 old.id, .int .i64 old.fid, .string (T old.path), .string (T old.name), .slice none 0 0] 55)
      have hc : (W2.alloc (.cells #[.int .i64 old.dev, .int .i64 old.id, .int .i64 old.fid, .string (T old.path), .string (T old.name), .slice none 0 0] 55)).cell? ⟨W2.heap.size, j, none⟩ = some u := by
        rw [cell_of_row _ _ _ _ _ _ hr]; simpa [fl, mne] using hj
      first
        | (rw [Addr.add_lit, Nat.zero_add]; exact hc)
        | simpa [fl, mne] using hj
    case pa3 => exact mnes1 (fun r hr => by rcases List.mem_singleton.1 hr with rfl; exact ⟨_, _, _, rfl⟩)
    case pa4 => unfold maxLen; omega
    case pa5 => omega
    case pa6 => have := HST.out.2.2.2.1; have := row_lt HST.out.2.2.1; simp; omega
    intro v6 w6 hown6 hgrow6 _ hat6
    have HST6 := Lib.hid (HST.out.push hown6 hgrow6 hat6)
    obtain ⟨a6, c6, rfl⟩ := own_lt hown6
    have hb6 : w6.cell? ⟨g9, 6, none⟩ = some (.slice a1 rs.length c1) := by
      rw [hgrow6.cell (a := ⟨g9, 6, none⟩) (v := .slice a1 rs.length c1)]
      · rw [World.cell?_alloc_lt _ _ _ (block_lt_of_cell q6)]; exact q6
      · exact fun e => own_ne HST.out.2.2.2.2.1.1 HST.out.2.2.1 (by decide) e.symm
    have hf6 : w6.frozen? ⟨g9, 6, none⟩ = false := by
      have h7 := hgrow6.block g9 (by have := row_lt HST.out.2.2.1; simp; omega) (fun e => own_ne HST.out.2.2.2.2.1.1 HST.out.2.2.1 (by decide) e.symm)
      exact frozen_of_row w6 g9 6 _ _ (h7.trans ((Lib.alloc_old _ _ _ (row_lt HST.out.2.2.1)).trans HST.out.2.2.1))
    clear hown6 hgrow6 hat6
    go_upto_region 4 with fail
    generalize w6.setCell ⟨g9, 6, none⟩ (.slice a6 (rs.length + 1) c6) = W3 at *
    clear q0 q1 q2 q3 q4 q5 q6 y0 y1 y2 y3 y4 y5 y6 o0 o1 o2 o3 o4 hb6 hf6
    obtain ⟨⟨q0, q1, q2, q3, q4, q5, q6⟩, ⟨y0, y1, y2, y3, y4, y5, y6⟩⟩ := ns_reads HST6.out.2.2.1
    obtain ⟨gr, c, e, hb, hlt, rc, rf, htg⟩ := HST6.out.2.2.2.2.1.read
    injection e with e1 e2 e3
    subst e1 e3
    have HS2 := Lib.hid (HST6.out.setTo HUV.out HUP.out)
    have hli : (rs.length : Int) < (rs.length : Int) + 1 := by omega
    have hgr1 : gr ≠ g9 := fun e => own_ne HST6.out.2.2.2.2.1.1 HST6.out.2.2.1 (by decide) (by rw [← e]; rfl)
    have hgr2 : g9 ≠ gr := fun e => hgr1 e.symm
    have hgr3 : gr ≠ w.heap.size + 2 := by omega
    have hgr4 : w.heap.size + 2 ≠ gr := by omega
    clear e2 htg
    obtain ⟨⟨z0, z1, z2, z3, z4, z5, z6⟩, ⟨v0, v1, v2, v3, v4, v5, v6⟩⟩ := ns_reads HST6.out.2.1
    go_wp2_with fail
    have hz := ns_stored (.int .i64 id) (.int .i64 r.dev) (.int .i64 r.id) (.int .i64 r.fid) (.string (T r.path)) (.string (T r.name)) (.slice (some ⟨gr, 0, none⟩) (rs.length + 1) c6) HS2.out.2.1
    obtain ⟨⟨x0, x1, x2, x3, x4, x5, x6⟩, _⟩ := ns_reads hz.1
    have HD := Lib.hid (HS2.out.done HPP.out hz.2)
    exact bodyPost_ret (v := .agg #[.int .i64 id, .int .i64 r.dev, .int .i64 r.id, .int .i64 r.fid, .string (T r.path), .string (T r.name), .slice (some ⟨gr, 0, none⟩) (rs.length + 1) c6]) (by simp [results, Try.results50, go_sem, x0, x1, x2, x3, x4, x5, x6]) rfl (ns_says HPUT.out HD.out.1 HD.out.2)
end Go.Proofs.Ytganenaaglfdnaa
