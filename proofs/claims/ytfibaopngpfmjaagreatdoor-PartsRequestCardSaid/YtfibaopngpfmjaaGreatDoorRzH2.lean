/- rpc.Start of any client and message. Conditions: those that each theorem names. -/
import Derived.Test.YtfibaopngpfmjaaGreatDoorRzH1
import Derived.Test.YtfibaopngpfmjaaGreatDoorRzE5
set_option linter.unusedVariables false
set_option linter.unusedSimpArgs false
set_option maxRecDepth 100000
set_option maxHeartbeats 16000000
namespace Go.Proofs.YtfibaopngpfmjaaGreatDoor
open Go.RowKit Go.Proofs
def PutX (QC : Prop) (rl : Nat) (rb : List UInt8) (w : World) (e : Ending) (w' : World) : Prop :=
  ((∃ k, k ≠ 0 ∧ e = .returned (.tuple #[.string (T []), .int .i64 k])) ∨ ((QC ∧ rl + 4 ≤ 8192) ∧ e = .returned (.tuple #[.string (T rb), .int .i64 0]))) ∧ Below w.heap.size w w'
theorem encoded_any (c : Cln) (af : Option Addr) (nf cf : Nat) (ac : Option Addr) (nc cc : Nat) (m : Mg) (ns : List (List UInt8)) (qs : List (Int × Int × Int)) (w : World) (hk : IsReq m.kind) (hm : MgIn w m ns qs) :
    Calls Tryz.prog 29 #[.agg (c.cs (.slice af nf cf) (.slice ac nc cc)), .agg m.cs.toArray] w (PutG w m ns qs) := by
  have h1 := (Lib.alloc_old (w.alloc (.cells (c.cs (.slice af nf cf) (.slice ac nc cc)) 41)) (mgobj m) _ (by simp)).trans (heap_alloc_new w (.cells (c.cs (.slice af nf cf) (.slice ac nc cc)) 41))
  have h2 := heap_alloc_new (w.alloc (.cells (c.cs (.slice af nf cf) (.slice ac nc cc)) 41)) (mgobj m)
  rw [show (w.alloc (.cells (c.cs (.slice af nf cf) (.slice ac nc cc)) 41)).heap.size = w.heap.size + 1 from by simp] at h2
  have H1 := lh h1
  have H2 := lh h2
  have HB := lh (bnext (alloc_below w (.cells (c.cs (.slice af nf cf) (.slice ac nc cc)) 41)) (alloc_below _ (mgobj m)))
  have HP := lh (fun W (h : Below w.heap.size w W) => show Calls Tryz.prog 71 #[.agg m.cs.toArray] W (PutX (Chk m ns qs) (reqc m ns).length (reqb m ns) W) from mput_any m ns qs W hk (hm.below h))
  have HE := lh (fun (k : Int) (W : World) (hk : k ≠ 0) (h : Below w.heap.size w W) => show PutX (Chk m ns qs) (reqc m ns).length (reqb m ns) w (.returned (.tuple #[.string (T []), .int .i64 k])) W from putg_err (m := m) (ns := ns) (qs := qs) k hk h)
  have HO := lh (fun (W : World) (hc : Chk m ns qs) (hl : (reqc m ns).length + 4 ≤ 8192) (h : Below w.heap.size w W) => show PutX (Chk m ns qs) (reqc m ns).length (reqb m ns) w (.returned (.tuple #[.string (T (reqb m ns)), .int .i64 0])) W from putg_ok hc hl h)
  have hbl : (reqb m ns).length = (reqc m ns).length + 4 := by unfold reqb; rw [List.length_append, Oct.le_length]; omega
  have HU := lh (Tryz.underlying48)
  have HSZ := lh (mg_size m)
  clear h1 h2 hk hm
  show Calls Tryz.prog _ _ w (PutX (Chk m ns qs) (reqc m ns).length (reqb m ns) w)
  unfold Cln.cs mgobj at *
  have hsz : (T (reqb m ns)).size = (reqb m ns).length := T_size _
  generalize m.cs.toArray = A1 at *
  generalize Chk m ns qs = QC at *
  generalize reqb m ns = rb at *
  generalize (reqc m ns).length = rl at *
  go_enter Tryz.func29, Tryz.ntmps29
  go_upto_region 1 with fail
  generalize World.alloc _ _ = w1 at *
  go_wp2_with (refine wpList_load_row rfl 48 _ rfl (w.heap.size + 1) rfl 48 A1 (0, 0) _ H2.out HU.out rfl HSZ.out ?_)
  have hb := HB.out
  (with_reducible refine (HP.out _ hb).mono ?_); rintro e w2 ⟨hput, b2⟩
  have L1 := lh ((b2.block _ (row_ltP H1.out)).trans H1.out)
  have HB2 := lh (bnext HB.out b2)
  clear b2 hb H1 H2 HB
  rcases hput with ⟨k, hk, rfl⟩ | ⟨⟨hc, hl⟩, rfl⟩
  · have ht : (k != 0) = true := by simp [hk]
    have HKK := lh hk
    clear hk
    go_wp2_with fail
    go_ret2
    exact HE.out _ _ HKK.out HB2.out
  · have HCC := lh hc
    have HLL := lh hl
    clear hc hl
    obtain ⟨c0, c1, c2, c3, c4, c5⟩ := six_cells L1.out
    by_cases e0 : c.ms = 0
    · rw [e0] at c1
      go_wp2_with fail
      go_ret2
      exact HO.out _ HCC.out HLL.out HB2.out
    · have k1 : (c.ms != 0) = true := by simp [e0]
      by_cases e1 : c.ms < rb.length
      · go_wp2_with fail
        go_ret2
        exact HE.out _ _ (by omega) HB2.out
      · have k2 : decide (c.ms < (rb.length : Int)) = false := decide_eq_false e1
        go_wp2_with fail
        go_ret2
        exact HO.out _ HCC.out HLL.out HB2.out
/-- The state of Start: the boxes of the client and of the message, the place of the result. -/
def SsSt (w W : World) (c : Cln) (fv cv : Value) (m : Mg) : Prop :=
  W.heap[w.heap.size]? = some (.cells (c.cs fv cv) 41 (0, 0)) ∧ W.heap[w.heap.size + 1]? = some (mgobj m) ∧ W.heap[w.heap.size + 1 + 1]? = some (.cells cln0 41 (0, 0)) ∧ Below w.heap.size w W
theorem SsSt.next {w W W' : World} {c : Cln} {fv cv : Value} {m : Mg} (h : SsSt w W c fv cv m) (hb : Below W.heap.size W W') : SsSt w W' c fv cv m :=
  ⟨(hb.block _ (row_ltP h.1)).trans h.1, (hb.block _ (row_ltP h.2.1)).trans h.2.1, (hb.block _ (row_ltP h.2.2.1)).trans h.2.2.1, bnext h.2.2.2 hb⟩
theorem SsSt.far {w W W' : World} {c : Cln} {fv cv : Value} {m : Mg} {p : Nat} (h : SsSt w W c fv cv m) (hg : W.grownBy W' (some p)) (hp : w.heap.size + 1 + 1 < p) : SsSt w W' c fv cv m :=
  ⟨(hg.block _ (row_ltP h.1) (fun e => by have := Option.some.inj e; omega)).trans h.1, (hg.block _ (row_ltP h.2.1) (fun e => by have := Option.some.inj e; omega)).trans h.2.1, (hg.block _ (row_ltP h.2.2.1) (fun e => by have := Option.some.inj e; omega)).trans h.2.2.1,
   h.2.2.2.trans ⟨hg.os, hg.tape, hg.output, hg.size, fun i hi => hg.block i (by have := h.2.2.2.size; omega) (fun e => by have := Option.some.inj e; omega)⟩⟩
theorem SsSt.own {w W W' : World} {c : Cln} {fv cv : Value} {m : Mg} {v : Value} {n : Nat} {xs : List Value} (h : SsSt w W c fv cv m) (ho : W.ownsRow w.heap.size 82 40 v n xs) (hg : W.grownBy W' v.ownBlock) : SsSt w W' c fv cv m :=
  ⟨(hg.block _ (row_ltP h.1) (fun e => own_neP ho h.1 (by decide) e.symm)).trans h.1, (hg.block _ (row_ltP h.2.1) (fun e => own_neP ho h.2.1 (by decide) e.symm)).trans h.2.1, (hg.block _ (row_ltP h.2.2.1) (fun e => own_neP ho h.2.2.1 (by decide) e.symm)).trans h.2.2.1,
   h.2.2.2.trans ⟨hg.os, hg.tape, hg.output, hg.size, fun i hi => hg.block i (by have := h.2.2.2.size; omega) (fun e => by have := (ho.lt i e.symm).1; omega)⟩⟩
theorem own_keep {W W' : World} {B : Nat} {v : Value} {n p : Nat} {xs : List Value} {cs : Array Value} {t : TypeId} {fr : Nat × Nat} (ho : W.ownsRow B 82 40 v n xs) (hg : W.grownBy W' v.ownBlock) (hp : W.heap[p]? = some (.cells cs t fr)) (ht : 82 ≠ t) : W'.heap[p]? = some (.cells cs t fr) :=
  (hg.block _ (row_ltP hp) (fun e => own_neP ho hp ht e.symm)).trans hp
theorem start_st2 (w : World) (c : Cln) (fv cv : Value) (m : Mg) : SsSt w (((w.alloc (.cells (c.cs fv cv) 41)).alloc (mgobj m)).alloc (.cells cln0 41)) c fv cv m := by
  have h2 := heap_alloc_new (w.alloc (.cells (c.cs fv cv) 41)) (mgobj m)
  rw [show (w.alloc (.cells (c.cs fv cv) 41)).heap.size = w.heap.size + 1 from by simp] at h2
  have h3 := heap_alloc_new ((w.alloc (.cells (c.cs fv cv) 41)).alloc (mgobj m)) (.cells cln0 41)
  rw [show ((w.alloc (.cells (c.cs fv cv) 41)).alloc (mgobj m)).heap.size = w.heap.size + 1 + 1 from by simp] at h3
  exact ⟨(Lib.alloc_old _ _ _ (by simp; omega)).trans ((Lib.alloc_old _ _ _ (by simp)).trans (heap_alloc_new w _)), (Lib.alloc_old _ _ _ (by simp)).trans h2, h3, bnext (bnext (alloc_below w _) (alloc_below _ _)) (alloc_below _ _)⟩
/-- A client's cells. -/
def DvOk (dv : Array Value) : Prop := dv.size = 6 ∧ dv.all (·.oneCell') = true
theorem dvOk6 {b : Bool} {i : Int} {s p : ByteArray} {a c : Option Addr} {n1 n2 k1 k2 : Nat} : DvOk #[.bool b, .int .i64 i, .string s, .slice a n1 k1, .slice c n2 k2, .string p] := ⟨rfl, by simp [Value.oneCell']⟩
/-- What Start returns: an error and no bytes, or the tag and the bytes of the request with this tag. -/
def StSay (w : World) (m : Mg) (ns : List (List UInt8)) (qs : List (Int × Int × Int)) (e : Ending) (w' : World) : Prop :=
  (∃ dv : Array Value, DvOk dv ∧ ((∃ k, k ≠ 0 ∧ e = .returned (.tuple #[.agg dv, .int .i64 0, .string (T []), .int .i64 k])) ∨ (∃ t, (IsReq m.kind ∧ Chk { m with tag := t } ns qs ∧ (reqc { m with tag := t } ns).length + 4 ≤ 8192) ∧ e = .returned (.tuple #[.agg dv, .int .i64 t, .string (T (reqb { m with tag := t } ns)), .int .i64 0])))) ∧ Below w.heap.size w w'
theorem stErr {w w' : World} {m : Mg} {ns : List (List UInt8)} {qs : List (Int × Int × Int)} (dv : Array Value) (k : Int) (hd : DvOk dv) (hk : k ≠ 0) (h : Below w.heap.size w w') : StSay w m ns qs (.returned (.tuple #[.agg dv, .int .i64 0, .string (T []), .int .i64 k])) w' := ⟨⟨dv, hd, Or.inl ⟨k, hk, rfl⟩⟩, h⟩
theorem reqb_tag (a b : Mg) (ns : List (List UInt8)) (t : Int) (h : a.bare = b.bare) : reqb { a with tag := t } ns = reqb { b with tag := t } ns ∧ (reqc { a with tag := t } ns).length = (reqc { b with tag := t } ns).length ∧ ({ a with tag := t } : Mg).bare = ({ b with tag := t } : Mg).bare := by
  have e : ∀ x : Mg, reqb { x with tag := t } ns = reqb { x.bare with tag := t } ns ∧ reqc { x with tag := t } ns = reqc { x.bare with tag := t } ns ∧ ({ x with tag := t } : Mg).bare = { x.bare with tag := t } := fun x => ⟨rfl, rfl, rfl⟩
  refine ⟨by rw [(e a).1, (e b).1, h], by rw [(e a).2.1, (e b).2.1, h], by rw [(e a).2.2, (e b).2.2, h]⟩
theorem MgIn.blocks {w : World} {m : Mg} {ns : List (List UInt8)} {qs : List (Int × Int × Int)} (h : MgIn w m ns qs) : (∀ ad n k, m.names = .slice (some ad) n k → ns ≠ [] → ad.block < w.heap.size) ∧ (∀ ad n k, m.qids = .slice (some ad) n k → qs ≠ [] → ad.block < w.heap.size) := by
  obtain ⟨⟨a1, c1, e1, _, _, h1⟩, ⟨a2, c2, e2, _, _, h2⟩, _⟩ := h
  refine ⟨fun ad n k e hn => ?_, fun ad n k e hn => ?_⟩
  · obtain ⟨b, off, ea, hb, _⟩ := h1 0 (List.length_pos_iff.2 hn)
    rw [e1, ea] at e
    cases e
    exact hb
  · obtain ⟨b, off, ea, hb, _⟩ := h2 0 (List.length_pos_iff.2 hn)
    rw [e2, ea] at e
    cases e
    exact hb
/-- The tag stored anew, in a block behind the lists. -/
theorem mgin_far {w w' : World} {m : Mg} {ns : List (List UInt8)} {qs : List (Int × Int × Int)} {g : Nat} {t t2 : Int} (h : MgIn w { m with tag := t } ns qs) (hg : w.grownBy w' (some g)) (hb : (∀ ad n k, m.names = .slice (some ad) n k → ns ≠ [] → ad.block < g) ∧ (∀ ad n k, m.qids = .slice (some ad) n k → qs ≠ [] → ad.block < g)) : MgIn w' { m with tag := t2 } ns qs := by
  refine ⟨?_, ?_, h.2.2⟩
  · by_cases hn : ns = []
    · subst hn
      obtain ⟨ao, cap, e, hc, hnn, _⟩ := h.1
      exact ⟨ao, cap, e, hc, hnn, fun j hj => absurd hj (by simp)⟩
    · exact Txs.gr2 (g := g) (p := g) (v := m.names) h.1 (fun ad n k e => by have := hb.1 ad n k e hn; omega) (Gr2.of_g hg)
  · by_cases hn : qs = []
    · subst hn
      obtain ⟨ao, cap, e, hc, hnn, _⟩ := h.2.1
      exact ⟨ao, cap, e, hc, hnn, fun j hj => absurd hj (by simp)⟩
    · exact Qds.gr2 (g := g) (p := g) (v := m.qids) h.2.1 (fun ad n k e => by have := hb.2 ad n k e hn; omega) (Gr2.of_g hg)
theorem start_v (c : Cln) (fv cv : Value) (fl : List Int) (l : List Cll) (m : Mg) (ns : List (List UInt8)) (qs : List (Int × Int × Int)) (w : World) (hv : m.kind = 100) (hf : Its w fv fl) (hc : Clls w cv l) (hm : MgIn w m ns qs) (hfl : fl.length ≤ 2000000) (hl : l.length ≤ 100) (hq : ∀ x ∈ l, x.ns.length ≤ 8796093021952 ∧ x.qs.length ≤ 5864062014634) (hns : ns.length ≤ 8796093021952) (hqs : qs.length ≤ 5864062014634) :
    Calls Tryz.prog 11 #[.agg (c.cs fv cv), .agg m.cs.toArray] w (StSay w m ns qs) := by
  obtain ⟨i0, hi, hz0, hz1, hz2⟩ := info_parts (P := Tryz.prog) (e := 82) (z := .agg (mg0.cs ++ [Value.int .i64 0]).toArray) (size := 40) (bytes := 432) (by kernel_rfl)
  have HS0 := lh (start_st2 w c fv cv m)
  have HOW := lh (fun (W : World) (h : Below w.heap.size w W) => own_any c fv cv fl l W (hf.below h) (hc.below h) hfl (by omega) hq)
  have HRQ := lh (fun W => reqv_any m.kind W)
  have HHV := lh (fun (W : World) (h : Below w.heap.size w W) => phasv_any cv l W (hc.below h) (by omega))
  have HCL := lh (fun (W : World) (h : Below w.heap.size w W) => mclone_any m ns qs W (hm.below h) hns hqs)
  obtain ⟨af, nf, cf, rfl⟩ := hf.form
  obtain ⟨ao, cap, rfl, hcp, _, _⟩ := hc
  have HEN := lh (fun (x : Mg) (W : World) (hk : IsReq x.kind) (h : MgIn W x ns qs) => encoded_any c af nf cf ao l.length cap x ns qs W hk h)
  have HKD := lh (show ∀ (W : World) (g : Nat), W.heap[g]? = some (mgobj m) → W.cell? ⟨g, 0, none⟩ = some (.int .i64 m.kind) from fun W g h => by rw [Lib.cell_of_heap h]; rfl)
  have HU := lh (Tryz.underlying48)
  have HSZ := lh (fun x : Mg => mg_size x)
  have HAL := lh (fun (x : Mg) (h : x.ok) => mg_all x h)
  have HTG := lh (show ∀ (x : Mg) (W : World) (g : Nat) (t : Int), W.heap[g]? = some (mgobj x) → (W.cell? ⟨g, 1, none⟩ = some (.int .i64 x.tag) ∧ W.frozen? ⟨g, 1, none⟩ = false) ∧ (W.setCell ⟨g, 1, none⟩ (.int .i64 t)).heap[g]? = some (mgobj { x with tag := t }) from fun x W g t h => ⟨⟨by rw [Lib.cell_of_heap h]; rfl, Lib.frozen_of_heap h _⟩, mg_set (m' := { x with tag := t }) h 1 _ rfl⟩)
  have HBU := lh (show ∀ (x : Mg), Tryz.prog.built 82 [(0, .agg x.cs.toArray), (1, .int .i64 65535)] = some (x.cs ++ [Value.int .i64 65535]).toArray from fun x => by kernel_rfl)
  have HBS := lh (show ∀ (x : Mg), Tryz.prog.builtSlice 82 1 [(0, .agg (x.cs ++ [Value.int .i64 65535]).toArray)] = some (x.cs ++ [Value.int .i64 65535]).toArray from fun x => by kernel_rfl)
  have HMZ := lh (show ∀ x : Mg, mg0.cs.toArray.size = x.cs.toArray.size from fun x => rfl)
  clear hf hfl hq hm hns hqs
  unfold Cln.cs cln0 SsSt mgobj at HS0
  go_enter Tryz.func11, Tryz.ntmps11
  unfold mgobj at *
  go_upto_region 1 with fail
  generalize hw1 : World.alloc _ _ = w1 at *
  have HS1 := lh (show SsSt w w1 c (.slice af nf cf) (.slice ao l.length cap) m from HS0.out)
  clear HS0 hw1
  obtain ⟨c0, c1, c2, c3, c4, c5⟩ := six_cells HS1.out.1
  have hb := HS1.out.2.2.2
  go_wp2_with fail
  (with_reducible refine (HOW.out _ hb).mono ?_); rintro e w2 ⟨a2, n2, k2, v2, xs, rfl, ho2, b2⟩
  obtain ⟨ad, cpo, rfl, _⟩ := own_form ho2
  have HS2 := lh (HS1.out.next b2)
  have HO2 := lh (owns_lower ho2 hb.size)
  clear b2 ho2 HS1 hb HOW c0 c1 c2 c3 c4 c5
  have hb3 := alloc_below w2 (.cells #[.bool c.up, .int .i64 c.ms, .string (T c.ss), .slice a2 n2 k2, .slice ad l.length cpo, .string (T c.pt)] 41)
  have HD3 := lh (heap_alloc_new w2 (.cells #[.bool c.up, .int .i64 c.ms, .string (T c.ss), .slice a2 n2 k2, .slice ad l.length cpo, .string (T c.pt)] 41))
  have HS3 := lh (HS2.out.next hb3)
  have HO3 := lh (own_next HO2.out hb3)
  have hgd : w.heap.size + 1 + 1 < w2.heap.size := row_ltP HS2.out.2.2.1
  clear HS2 HO2 hb3
  unfold Cln.cs at *
  go_upto_region 2 with fail
  generalize World.alloc _ _ = w3 at *
  generalize w2.heap.size = d at *
  have k0 := HKD.out _ _ HS3.out.2.1
  obtain ⟨c0, c1, c2, c3, c4, c5⟩ := six_cells HS3.out.1
  rw [hv] at k0 HRQ
  cases hup : c.up
  · obtain ⟨d0, d1, d2, d3, d4, d5⟩ := six_cells HD3.out
    obtain ⟨z0, z1, z2, z3, z4, z5⟩ := six_cells HS3.out.2.2.1
    obtain ⟨f0, f1, f2, f3, f4, f5⟩ := six_frozen HS3.out.2.2.1
    go_wp2_with fail
    have hq := six_stored (v0 := .bool false) (v1 := .int .i64 c.ms) (v2 := .string (T c.ss)) (v3 := .slice a2 n2 k2) (v4 := .slice ad l.length cpo) (v5 := .string (T c.pt)) HS3.out.2.2.1
    obtain ⟨q0, q1, q2, q3, q4, q5⟩ := six_cells hq
    have hg5 := six_grown (W := w3) (w.heap.size + 1 + 1) (.bool false) (.int .i64 c.ms) (.string (T c.ss)) (.slice a2 n2 k2) (.slice ad l.length cpo) (.string (T c.pt))
    have hb5 : Below w.heap.size w _ := HS3.out.2.2.2.trans ⟨hg5.os, hg5.tape, hg5.output, hg5.size, fun i hi => hg5.block i (by have := HS3.out.2.2.2.size; omega) (fun e => by have := Option.some.inj e; omega)⟩
    exact bodyPost_ret (v := .tuple #[.agg #[.bool false, .int .i64 c.ms, .string (T c.ss), .slice a2 n2 k2, .slice ad l.length cpo, .string (T c.pt)], .int .i64 0, .string (T []), .int .i64 30]) (by simp [results, Tryz.results11, go_sem, q0, q1, q2, q3, q4, q5]) rfl (stErr _ _ dvOk6 (by omega) hb5)
  go_wp2_with fail
  (with_reducible refine (HRQ.out _).mono ?_); rintro e w4 ⟨rb, rfl, hrb, b4⟩
  have HS4 := lh (HS3.out.next b4)
  have HO4 := lh (own_next HO3.out b4)
  have HD4 := lh ((b4.block _ (row_ltP HD3.out)).trans HD3.out)
  clear b4 HS3 HO3 HD3 k0 c0 c1 c2 c3 c4 c5 HRQ
  have k0 := HKD.out _ _ HS4.out.2.1
  rw [hv] at k0
  obtain ⟨c0, c1, c2, c3, c4, c5⟩ := six_cells HS4.out.1
  cases rb
  · clear hrb
    obtain ⟨d0, d1, d2, d3, d4, d5⟩ := six_cells HD4.out
    obtain ⟨z0, z1, z2, z3, z4, z5⟩ := six_cells HS4.out.2.2.1
    obtain ⟨f0, f1, f2, f3, f4, f5⟩ := six_frozen HS4.out.2.2.1
    go_wp2_with fail
    have hq := six_stored (v0 := .bool true) (v1 := .int .i64 c.ms) (v2 := .string (T c.ss)) (v3 := .slice a2 n2 k2) (v4 := .slice ad l.length cpo) (v5 := .string (T c.pt)) HS4.out.2.2.1
    obtain ⟨q0, q1, q2, q3, q4, q5⟩ := six_cells hq
    have hg5 := six_grown (W := w4) (w.heap.size + 1 + 1) (.bool true) (.int .i64 c.ms) (.string (T c.ss)) (.slice a2 n2 k2) (.slice ad l.length cpo) (.string (T c.pt))
    have hb5 : Below w.heap.size w _ := HS4.out.2.2.2.trans ⟨hg5.os, hg5.tape, hg5.output, hg5.size, fun i hi => hg5.block i (by have := HS4.out.2.2.2.size; omega) (fun e => by have := Option.some.inj e; omega)⟩
    exact bodyPost_ret (v := .tuple #[.agg #[.bool true, .int .i64 c.ms, .string (T c.ss), .slice a2 n2 k2, .slice ad l.length cpo, .string (T c.pt)], .int .i64 0, .string (T []), .int .i64 2]) (by simp [results, Tryz.results11, go_sem, q0, q1, q2, q3, q4, q5]) rfl (stErr _ _ dvOk6 (by omega) hb5)
  have hrb2 := hrb rfl
  clear hrb
  have HRE := lh (show IsReq m.kind from by rw [hv]; exact Or.inl rfl)
  clear hrb2
  have hb := HS4.out.2.2.2
  go_wp2_with fail
  (with_reducible refine (HHV.out _ hb).mono ?_); rintro e w5 ⟨hvb, rfl, _, b5⟩
  have HS5 := lh (HS4.out.next b5)
  have HO5 := lh (own_next HO4.out b5)
  have HD5 := lh ((b5.block _ (row_ltP HD4.out)).trans HD4.out)
  clear b5 hb HS4 HO4 HD4 k0 c0 c1 c2 c3 c4 c5 HHV
  have k0 := HKD.out _ _ HS5.out.2.1
  rw [hv] at k0
  obtain ⟨c0, c1, c2, c3, c4, c5⟩ := six_cells HS5.out.1
  cases hvb
  rotate_left
  · obtain ⟨d0, d1, d2, d3, d4, d5⟩ := six_cells HD5.out
    obtain ⟨z0, z1, z2, z3, z4, z5⟩ := six_cells HS5.out.2.2.1
    obtain ⟨f0, f1, f2, f3, f4, f5⟩ := six_frozen HS5.out.2.2.1
    go_wp2_with fail
    have hq := six_stored (v0 := .bool true) (v1 := .int .i64 c.ms) (v2 := .string (T c.ss)) (v3 := .slice a2 n2 k2) (v4 := .slice ad l.length cpo) (v5 := .string (T c.pt)) HS5.out.2.2.1
    obtain ⟨q0, q1, q2, q3, q4, q5⟩ := six_cells hq
    have hg5 := six_grown (W := w5) (w.heap.size + 1 + 1) (.bool true) (.int .i64 c.ms) (.string (T c.ss)) (.slice a2 n2 k2) (.slice ad l.length cpo) (.string (T c.pt))
    have hb5 : Below w.heap.size w _ := HS5.out.2.2.2.trans ⟨hg5.os, hg5.tape, hg5.output, hg5.size, fun i hi => hg5.block i (by have := HS5.out.2.2.2.size; omega) (fun e => by have := Option.some.inj e; omega)⟩
    exact bodyPost_ret (v := .tuple #[.agg #[.bool true, .int .i64 c.ms, .string (T c.ss), .slice a2 n2 k2, .slice ad l.length cpo, .string (T c.pt)], .int .i64 0, .string (T []), .int .i64 17]) (by simp [results, Tryz.results11, go_sem, q0, q1, q2, q3, q4, q5]) rfl (stErr _ _ dvOk6 (by omega) hb5)
  by_cases hl0 : 0 < l.length
  · have kl0 : (0 : Int) < l.length := by omega
    obtain ⟨d0, d1, d2, d3, d4, d5⟩ := six_cells HD5.out
    obtain ⟨z0, z1, z2, z3, z4, z5⟩ := six_cells HS5.out.2.2.1
    obtain ⟨f0, f1, f2, f3, f4, f5⟩ := six_frozen HS5.out.2.2.1
    go_wp2_with fail
    have hq := six_stored (v0 := .bool true) (v1 := .int .i64 c.ms) (v2 := .string (T c.ss)) (v3 := .slice a2 n2 k2) (v4 := .slice ad l.length cpo) (v5 := .string (T c.pt)) HS5.out.2.2.1
    obtain ⟨q0, q1, q2, q3, q4, q5⟩ := six_cells hq
    have hg5 := six_grown (W := w5) (w.heap.size + 1 + 1) (.bool true) (.int .i64 c.ms) (.string (T c.ss)) (.slice a2 n2 k2) (.slice ad l.length cpo) (.string (T c.pt))
    have hb5 : Below w.heap.size w _ := HS5.out.2.2.2.trans ⟨hg5.os, hg5.tape, hg5.output, hg5.size, fun i hi => hg5.block i (by have := HS5.out.2.2.2.size; omega) (fun e => by have := Option.some.inj e; omega)⟩
    exact bodyPost_ret (v := .tuple #[.agg #[.bool true, .int .i64 c.ms, .string (T c.ss), .slice a2 n2 k2, .slice ad l.length cpo, .string (T c.pt)], .int .i64 0, .string (T []), .int .i64 17]) (by simp [results, Tryz.results11, go_sem, q0, q1, q2, q3, q4, q5]) rfl (stErr _ _ dvOk6 (by omega) hb5)
  have kl0 : decide ((0 : Int) < (l.length : Int)) = false := decide_eq_false (by omega)
  have kl64 : decide ((64 : Int) ≤ (l.length : Int)) = false := decide_eq_false (by omega)
  have hb := HS5.out.2.2.2
  have HSM := lh (HSZ.out m)
  go_wp2_with (refine wpList_load_row rfl 48 _ rfl (w.heap.size + 1) rfl 48 m.cs.toArray (0, 0) _ HS5.out.2.1 HU.out rfl HSM.out ?_)
  (with_reducible refine (HCL.out _ hb).mono ?_); rintro e w6 ⟨m2, rfl, ⟨hbare, hin⟩, b6⟩
  have HS6 := lh (HS5.out.next b6)
  have HO6 := lh (own_next HO5.out b6)
  have HD6 := lh ((b6.block _ (row_ltP HD5.out)).trans HD5.out)
  have HBR := lh hbare
  have HIN6 := lh hin
  clear b6 hb hbare hin HS5 HO5 HD5 k0 c0 c1 c2 c3 c4 c5 HCL HSM
  have HS2Z := lh (HSZ.out m2)
  have HA2 := lh (HAL.out m2 HIN6.out.ok)
  have HM2 := lh (HMZ.out m2)
  have hz6 := heap_alloc_new w6 (.cells mg0.cs.toArray 48)
  go_upto_region 12 with (refine wpList_store_row rfl 48 _ _ rfl w6.heap.size m2.cs.toArray rfl rfl 48 mg0.cs.toArray hz6 HS2Z.out HM2.out HA2.out ?_)
  generalize hw7 : World.setRow _ _ _ = w7
  have b7 := (show Below w6.heap.size w6 w7 from by rw [← hw7]; exact below_setRow (alloc_below w6 _) (Nat.le_refl _) _)
  have K7 := lh (show w7.heap[w6.heap.size]? = some (mgobj m2) from by rw [← hw7]; exact heap_setRow_same (heap_alloc_new w6 _))
  have HS7 := lh (HS6.out.next b7)
  have HO7 := lh (own_next HO6.out b7)
  have HD7 := lh ((b7.block _ (row_ltP HD6.out)).trans HD6.out)
  have HIN7 := lh (HIN6.out.below b7)
  have hdg : d < w6.heap.size := row_ltP HD6.out
  have HNB := lh (show (∀ ad n k, m2.names = .slice (some ad) n k → ns ≠ [] → ad.block < w6.heap.size) ∧ (∀ ad n k, m2.qids = .slice (some ad) n k → qs ≠ [] → ad.block < w6.heap.size) from HIN6.out.blocks)
  clear hz6 hw7 b7 HS6 HO6 HD6 HIN6 HS2Z HA2 HM2
  generalize w6.heap.size = g at *
  obtain ⟨⟨x0, y0⟩, z0⟩ := HTG.out (m2) w7 g (65535) K7.out
  have K8 := lh z0
  have hg7 := grown_setG (below_grownBy (Below.refl _ w7) (some g)) 1 (.int .i64 (65535))
  have HS8 := lh (HS7.out.far hg7 (by omega))
  have HO8 := lh (HO7.out.kept hg7 (Or.inr (own_neP HO7.out K7.out (by decide))))
  have HD8 := lh ((hg7.block d (row_ltP HD7.out) (fun e => by have := Option.some.inj e; omega)).trans HD7.out)
  have HIN8 := lh (mgin_far (m := m2) (t := m2.tag) (t2 := 65535) HIN7.out hg7 HNB.out)
  clear z0 hg7 HS7 HO7 HD7 K7 HIN7
  go_upto_region 13 with fail
  generalize World.setCell w7 ⟨g, 1, none⟩ (.int .i64 (65535)) = y8 at *
  clear x0 y0
  obtain ⟨c0, c1, c2, c3, c4, c5⟩ := six_cells HS8.out.1
  have HINX := lh (show MgIn y8 { m2 with tag := 65535 } ns qs from HIN8.out)
  have HREX := lh (show IsReq ({ m2 with tag := 65535 } : Mg).kind from by show IsReq m2.kind; rw [show m2.kind = m.kind from show m2.bare.kind = m.bare.kind from by rw [HBR.out]]; exact HRE.out)
  have HENX := lh (HEN.out { m2 with tag := 65535 } y8 HREX.out HINX.out)
  rw [hup] at HENX
  have HST := lh (reqb_tag m2 m ns (65535) HBR.out)
  have HCS := lh (fun (h : Chk { m2 with tag := 65535 } ns qs) => chk_same { m2 with tag := 65535 } { m with tag := 65535 } ns qs HST.out.2.2 h)
  have HKX := lh (show y8.heap[g]? = some (mgobj { m2 with tag := 65535 }) from K8.out)
  have HSX := lh (HSZ.out { m2 with tag := 65535 })
  have HBUX := lh (HBU.out { m2 with tag := 65535 })
  have HBSX := lh (HBS.out { m2 with tag := 65535 })
  have HML : RowKit.Hid ((({ m2 with tag := 65535 } : Mg).cs ++ [Value.int .i64 65535]).length = 40) := lh rfl
  have HMO : RowKit.Hid (∀ u ∈ ({ m2 with tag := 65535 } : Mg).cs ++ [Value.int .i64 65535], u.oneCell' = true) := lh (by
    intro u hu
    rcases List.mem_append.1 hu with h | h
    · exact ({ m2 with tag := 65535 } : Mg).one HINX.out.ok u h
    · simp only [List.mem_singleton] at h; subst h; rfl)
  have HKT := lh (show ∀ (V : World), V.heap[g]? = some (mgobj { m2 with tag := 65535 }) → V.cell? ⟨g, 1, none⟩ = some (.int .i64 (65535)) from fun V h => by rw [Lib.cell_of_heap h]; rfl)
  have HFIN := lh (fun (dv : Array Value) (W' : World) (hd : DvOk dv) (h : Chk { m2 with tag := 65535 } ns qs ∧ (reqc { m2 with tag := 65535 } ns).length + 4 ≤ 8192) (hb : Below w.heap.size w W') => (show StSay w m ns qs (.returned (.tuple #[.agg dv, .int .i64 (65535), .string (T (reqb { m2 with tag := 65535 } ns)), .int .i64 0])) W' from by
    rw [HST.out.1]
    exact ⟨⟨dv, hd, Or.inr ⟨65535, ⟨HRE.out, HCS.out h.1, by rw [← HST.out.2.1]; exact h.2⟩, rfl⟩⟩, hb⟩))
  clear HIN8 K8 HINX HREX HEN HST HCS HSZ HBU HBS HTG HAL HMZ HNB HKD
  unfold mgobj at *
  generalize hLX : ({ m2 with tag := 65535 } : Mg).cs = LX at *
  clear hLX
  go_wp2_with (refine wpList_load_row rfl 48 _ rfl g rfl 48 LX.toArray (0, 0) _ HKX.out HU.out rfl HSX.out ?_)
  (with_reducible refine HENX.out.mono ?_); rintro e wa ⟨hput, ba⟩
  have HSa := lh (HS8.out.next ba)
  have HOa := lh (own_next HO8.out ba)
  have HDa := lh ((ba.block _ (row_ltP HD8.out)).trans HD8.out)
  have Ka := lh ((ba.block _ (row_ltP HKX.out)).trans HKX.out)
  clear ba HS8 HO8 HD8 HKX HENX c0 c1 c2 c3 c4 c5
  rcases hput with ⟨k, hk, rfl⟩ | ⟨hok, rfl⟩
  · have ht : (k != 0) = true := by simp [hk]
    have HKK := lh hk
    clear hk
    obtain ⟨d0, d1, d2, d3, d4, d5⟩ := six_cells HDa.out
    obtain ⟨z0, z1, z2, z3, z4, z5⟩ := six_cells HSa.out.2.2.1
    obtain ⟨f0, f1, f2, f3, f4, f5⟩ := six_frozen HSa.out.2.2.1
    go_wp2_with fail
    have hq := six_stored (v0 := .bool true) (v1 := .int .i64 c.ms) (v2 := .string (T c.ss)) (v3 := .slice a2 n2 k2) (v4 := .slice ad l.length cpo) (v5 := .string (T c.pt)) HSa.out.2.2.1
    obtain ⟨q0, q1, q2, q3, q4, q5⟩ := six_cells hq
    have hg5 := six_grown (W := wa) (w.heap.size + 1 + 1) (.bool true) (.int .i64 c.ms) (.string (T c.ss)) (.slice a2 n2 k2) (.slice ad l.length cpo) (.string (T c.pt))
    have hb5 : Below w.heap.size w _ := HSa.out.2.2.2.trans ⟨hg5.os, hg5.tape, hg5.output, hg5.size, fun i hi => hg5.block i (by have := HSa.out.2.2.2.size; omega) (fun e => by have := Option.some.inj e; omega)⟩
    exact bodyPost_ret (v := .tuple #[.agg #[.bool true, .int .i64 c.ms, .string (T c.ss), .slice a2 n2 k2, .slice ad l.length cpo, .string (T c.pt)], .int .i64 0, .string (T []), .int .i64 k]) (by simp [results, Tryz.results11, go_sem, q0, q1, q2, q3, q4, q5]) rfl (stErr _ _ dvOk6 (HKK.out) hb5)
  have HOKX := lh hok
  clear hok
  generalize hrb : reqb { m2 with tag := 65535 } ns = rb at *
  clear hrb
  go_upto_region 18 with fail
  obtain ⟨c0, c1, c2, c3, c4, c5⟩ := six_cells HDa.out
  obtain ⟨f0, f1, f2, f3, f4, f5⟩ := six_frozen HDa.out
  have hsza := HSa.out.2.2.2.size
  have hszb := (alloc_below wa (.cells (LX ++ [Value.int .i64 65535]).toArray 82)).size
  go_wp2_with (first | refine wpList_load_row rfl 48 _ rfl g rfl 48 LX.toArray (0, 0) _ Ka.out HU.out rfl HSX.out ?_ | refine wpList_build_at rfl 82 _ rfl (LX ++ [Value.int .i64 65535]).toArray (by simp only [List.map_toArray, List.map_cons, List.map_nil]; exact HBUX.out) ?_ | refine Great.wpList_buildSliceTo rfl 39 82 1 _ rfl wa.heap.size rfl _ rfl Tryz.underlying39 (LX ++ [Value.int .i64 65535]).toArray (by simp only [List.map_toArray, List.map_cons, List.map_nil]; exact HBSX.out) ?_ | (at_builtin; refine wpList_append_any _ rfl _ _ 39 rfl w.heap.size 82 i0 (.agg (mg0.cs ++ [Value.int .i64 0]).toArray) 40 432 Tryz.underlying39 hi hz0 hz1 hz2 rfl (by decide) (.slice ad l.length cpo) l.length xs rfl (HOa.out.alloc _) (some ⟨wa.heap.size, 0, none⟩) 1 1 (LX ++ [Value.int .i64 65535]) rfl (fun h => nomatch h) (by rw [HML.out]) ?c2 HMO.out ?c4 ?c5 ?c6 ?_))
  case c2 =>
    intro ad2 had
    cases had
    exact World.news_of_block (t := 82) (fr := (0, 0)) (heap_alloc_new wa _)
  case c4 => unfold maxLen; omega
  case c5 => omega
  case c6 => omega
  intro v2 wb hown2 hgrow2 _
  obtain ⟨ao3, cp3, rfl, _⟩ := own_form hown2
  have hal := alloc_below wa (.cells (LX ++ [Value.int .i64 65535]).toArray 82)
  have hoal := HOa.out.alloc (.cells (LX ++ [Value.int .i64 65535]).toArray 82)
  have HSb := lh ((HSa.out.next hal).own hoal hgrow2)
  have HDb := lh (own_keep hoal hgrow2 ((hal.block _ (row_ltP HDa.out)).trans HDa.out) (by decide))
  have Kb := lh (own_keep hoal hgrow2 ((hal.block _ (row_ltP Ka.out)).trans Ka.out) (by decide))
  clear hal hoal hown2 hgrow2 HSa HDa Ka HOa c0 c1 c2 c3 c4 c5 f0 f1 f2 f3 f4 f5 hsza hszb
  generalize LX ++ [Value.int .i64 65535] = LC at *
  obtain ⟨c0, c1, c2, c3, c4, c5⟩ := six_cells HDb.out
  obtain ⟨f0, f1, f2, f3, f4, f5⟩ := six_frozen HDb.out
  have hdc := heap_setCell_same wb d 4 _ _ (.slice ao3 (l.length + 1) cp3) HDb.out
  have hgc := grown_setG (below_grownBy (Below.refl _ wb) (some d)) 4 (.slice ao3 (l.length + 1) cp3)
  have HSc := lh (HSb.out.far hgc (by omega))
  have Kc := lh ((hgc.block _ (row_ltP Kb.out) (fun e => by have := Option.some.inj e; omega)).trans Kb.out)
  have HDc := lh (show (wb.setCell ⟨d, 4, none⟩ (.slice ao3 (l.length + 1) cp3)).heap[d]? = some (.cells #[.bool c.up, .int .i64 c.ms, .string (T c.ss), .slice a2 n2 k2, .slice ao3 (l.length + 1) cp3, .string (T c.pt)] 41 (0, 0)) from hdc)
  clear HSb HDb Kb hgc hdc
  go_upto_region 19 with fail
  generalize World.setCell wb ⟨d, 4, none⟩ (.slice ao3 (l.length + 1) cp3) = wc at *
  clear c0 c1 c2 c3 c4 c5 f0 f1 f2 f3 f4 f5
  obtain ⟨c0, c1, c2, c3, c4, c5⟩ := six_cells HDc.out
  have k1 := HKT.out wc Kc.out
  obtain ⟨f0, f1, f2, f3, f4, f5⟩ := six_frozen HSc.out.2.2.1
  go_wp2_with fail
  obtain ⟨d0, d1, d2, d3, d4, d5⟩ := six_cells HSc.out.2.2.1
  go_region
  have hq := six_stored (v0 := .bool true) (v1 := .int .i64 c.ms) (v2 := .string (T c.ss)) (v3 := .slice a2 n2 k2) (v4 := .slice ao3 (l.length + 1) cp3) (v5 := .string (T c.pt)) HSc.out.2.2.1
  obtain ⟨q0, q1, q2, q3, q4, q5⟩ := six_cells hq
  have hg5 := six_grown (W := wc) (w.heap.size + 1 + 1) (.bool true) (.int .i64 c.ms) (.string (T c.ss)) (.slice a2 n2 k2) (.slice ao3 (l.length + 1) cp3) (.string (T c.pt))
  have hb5 : Below w.heap.size w _ := HSc.out.2.2.2.trans ⟨hg5.os, hg5.tape, hg5.output, hg5.size, fun i hi => hg5.block i (by have := HSc.out.2.2.2.size; omega) (fun e => by have := Option.some.inj e; omega)⟩
  go_wp2_with fail
  refine bodyPost_ret (v := .tuple #[.agg #[.bool true, .int .i64 c.ms, .string (T c.ss), .slice a2 n2 k2, .slice ao3 (l.length + 1) cp3, .string (T c.pt)], .int .i64 (65535), .string (T rb), .int .i64 0]) ?_ rfl ?_
  · simp [results, Tryz.results11, go_sem, q0, q1, q2, q3, q4, q5]
  · exact HFIN.out _ _ dvOk6 HOKX.out (bnext hb5 (below_drew1 _))
theorem start_n (c : Cln) (fv cv : Value) (fl : List Int) (l : List Cll) (m : Mg) (ns : List (List UInt8)) (qs : List (Int × Int × Int)) (w : World) (hv : ¬ m.kind = 100) (hf : Its w fv fl) (hc : Clls w cv l) (hm : MgIn w m ns qs) (hfl : fl.length ≤ 2000000) (hl : l.length ≤ 100) (hq : ∀ x ∈ l, x.ns.length ≤ 8796093021952 ∧ x.qs.length ≤ 5864062014634) (hns : ns.length ≤ 8796093021952) (hqs : qs.length ≤ 5864062014634) :
    Calls Tryz.prog 11 #[.agg (c.cs fv cv), .agg m.cs.toArray] w (StSay w m ns qs) := by
  obtain ⟨i0, hi, hz0, hz1, hz2⟩ := info_parts (P := Tryz.prog) (e := 82) (z := .agg (mg0.cs ++ [Value.int .i64 0]).toArray) (size := 40) (bytes := 432) (by kernel_rfl)
  have HS0 := lh (start_st2 w c fv cv m)
  have HOW := lh (fun (W : World) (h : Below w.heap.size w W) => own_any c fv cv fl l W (hf.below h) (hc.below h) hfl (by omega) hq)
  have HRQ := lh (fun W => reqv_any m.kind W)
  have HHV := lh (fun (W : World) (h : Below w.heap.size w W) => phasv_any cv l W (hc.below h) (by omega))
  have HCL := lh (fun (W : World) (h : Below w.heap.size w W) => mclone_any m ns qs W (hm.below h) hns hqs)
  have HFR := lh (fun (W : World) (h : Below w.heap.size w W) => pfree_any cv l W (hc.below h) (by omega))
  obtain ⟨af, nf, cf, rfl⟩ := hf.form
  obtain ⟨ao, cap, rfl, hcp, _, _⟩ := hc
  have HEN := lh (fun (x : Mg) (W : World) (hk : IsReq x.kind) (h : MgIn W x ns qs) => encoded_any c af nf cf ao l.length cap x ns qs W hk h)
  have HKD := lh (show ∀ (W : World) (g : Nat), W.heap[g]? = some (mgobj m) → W.cell? ⟨g, 0, none⟩ = some (.int .i64 m.kind) from fun W g h => by rw [Lib.cell_of_heap h]; rfl)
  have HU := lh (Tryz.underlying48)
  have HSZ := lh (fun x : Mg => mg_size x)
  have HAL := lh (fun (x : Mg) (h : x.ok) => mg_all x h)
  have HTG := lh (show ∀ (x : Mg) (W : World) (g : Nat) (t : Int), W.heap[g]? = some (mgobj x) → (W.cell? ⟨g, 1, none⟩ = some (.int .i64 x.tag) ∧ W.frozen? ⟨g, 1, none⟩ = false) ∧ (W.setCell ⟨g, 1, none⟩ (.int .i64 t)).heap[g]? = some (mgobj { x with tag := t }) from fun x W g t h => ⟨⟨by rw [Lib.cell_of_heap h]; rfl, Lib.frozen_of_heap h _⟩, mg_set (m' := { x with tag := t }) h 1 _ rfl⟩)
  have HBU := lh (show ∀ (x : Mg), Tryz.prog.built 82 [(0, .agg x.cs.toArray), (1, .int .i64 65535)] = some (x.cs ++ [Value.int .i64 65535]).toArray from fun x => by kernel_rfl)
  have HBS := lh (show ∀ (x : Mg), Tryz.prog.builtSlice 82 1 [(0, .agg (x.cs ++ [Value.int .i64 65535]).toArray)] = some (x.cs ++ [Value.int .i64 65535]).toArray from fun x => by kernel_rfl)
  have HMZ := lh (show ∀ x : Mg, mg0.cs.toArray.size = x.cs.toArray.size from fun x => rfl)
  clear hf hfl hq hm hns hqs
  unfold Cln.cs cln0 SsSt mgobj at HS0
  go_enter Tryz.func11, Tryz.ntmps11
  unfold mgobj at *
  go_upto_region 1 with fail
  generalize hw1 : World.alloc _ _ = w1 at *
  have HS1 := lh (show SsSt w w1 c (.slice af nf cf) (.slice ao l.length cap) m from HS0.out)
  clear HS0 hw1
  obtain ⟨c0, c1, c2, c3, c4, c5⟩ := six_cells HS1.out.1
  have hb := HS1.out.2.2.2
  go_wp2_with fail
  (with_reducible refine (HOW.out _ hb).mono ?_); rintro e w2 ⟨a2, n2, k2, v2, xs, rfl, ho2, b2⟩
  obtain ⟨ad, cpo, rfl, _⟩ := own_form ho2
  have HS2 := lh (HS1.out.next b2)
  have HO2 := lh (owns_lower ho2 hb.size)
  clear b2 ho2 HS1 hb HOW c0 c1 c2 c3 c4 c5
  have hb3 := alloc_below w2 (.cells #[.bool c.up, .int .i64 c.ms, .string (T c.ss), .slice a2 n2 k2, .slice ad l.length cpo, .string (T c.pt)] 41)
  have HD3 := lh (heap_alloc_new w2 (.cells #[.bool c.up, .int .i64 c.ms, .string (T c.ss), .slice a2 n2 k2, .slice ad l.length cpo, .string (T c.pt)] 41))
  have HS3 := lh (HS2.out.next hb3)
  have HO3 := lh (own_next HO2.out hb3)
  have hgd : w.heap.size + 1 + 1 < w2.heap.size := row_ltP HS2.out.2.2.1
  clear HS2 HO2 hb3
  unfold Cln.cs at *
  go_upto_region 2 with fail
  generalize World.alloc _ _ = w3 at *
  generalize w2.heap.size = d at *
  have k0 := HKD.out _ _ HS3.out.2.1
  obtain ⟨c0, c1, c2, c3, c4, c5⟩ := six_cells HS3.out.1
  have kv : (m.kind == 100) = false := by simp only [beq_eq_false_iff_ne, ne_eq]; exact hv
  cases hup : c.up
  · obtain ⟨d0, d1, d2, d3, d4, d5⟩ := six_cells HD3.out
    obtain ⟨z0, z1, z2, z3, z4, z5⟩ := six_cells HS3.out.2.2.1
    obtain ⟨f0, f1, f2, f3, f4, f5⟩ := six_frozen HS3.out.2.2.1
    go_wp2_with fail
    have hq := six_stored (v0 := .bool false) (v1 := .int .i64 c.ms) (v2 := .string (T c.ss)) (v3 := .slice a2 n2 k2) (v4 := .slice ad l.length cpo) (v5 := .string (T c.pt)) HS3.out.2.2.1
    obtain ⟨q0, q1, q2, q3, q4, q5⟩ := six_cells hq
    have hg5 := six_grown (W := w3) (w.heap.size + 1 + 1) (.bool false) (.int .i64 c.ms) (.string (T c.ss)) (.slice a2 n2 k2) (.slice ad l.length cpo) (.string (T c.pt))
    have hb5 : Below w.heap.size w _ := HS3.out.2.2.2.trans ⟨hg5.os, hg5.tape, hg5.output, hg5.size, fun i hi => hg5.block i (by have := HS3.out.2.2.2.size; omega) (fun e => by have := Option.some.inj e; omega)⟩
    exact bodyPost_ret (v := .tuple #[.agg #[.bool false, .int .i64 c.ms, .string (T c.ss), .slice a2 n2 k2, .slice ad l.length cpo, .string (T c.pt)], .int .i64 0, .string (T []), .int .i64 30]) (by simp [results, Tryz.results11, go_sem, q0, q1, q2, q3, q4, q5]) rfl (stErr _ _ dvOk6 (by omega) hb5)
  go_wp2_with fail
  (with_reducible refine (HRQ.out _).mono ?_); rintro e w4 ⟨rb, rfl, hrb, b4⟩
  have HS4 := lh (HS3.out.next b4)
  have HO4 := lh (own_next HO3.out b4)
  have HD4 := lh ((b4.block _ (row_ltP HD3.out)).trans HD3.out)
  clear b4 HS3 HO3 HD3 k0 c0 c1 c2 c3 c4 c5 HRQ
  have k0 := HKD.out _ _ HS4.out.2.1
  obtain ⟨c0, c1, c2, c3, c4, c5⟩ := six_cells HS4.out.1
  cases rb
  · clear hrb
    obtain ⟨d0, d1, d2, d3, d4, d5⟩ := six_cells HD4.out
    obtain ⟨z0, z1, z2, z3, z4, z5⟩ := six_cells HS4.out.2.2.1
    obtain ⟨f0, f1, f2, f3, f4, f5⟩ := six_frozen HS4.out.2.2.1
    go_wp2_with fail
    have hq := six_stored (v0 := .bool true) (v1 := .int .i64 c.ms) (v2 := .string (T c.ss)) (v3 := .slice a2 n2 k2) (v4 := .slice ad l.length cpo) (v5 := .string (T c.pt)) HS4.out.2.2.1
    obtain ⟨q0, q1, q2, q3, q4, q5⟩ := six_cells hq
    have hg5 := six_grown (W := w4) (w.heap.size + 1 + 1) (.bool true) (.int .i64 c.ms) (.string (T c.ss)) (.slice a2 n2 k2) (.slice ad l.length cpo) (.string (T c.pt))
    have hb5 : Below w.heap.size w _ := HS4.out.2.2.2.trans ⟨hg5.os, hg5.tape, hg5.output, hg5.size, fun i hi => hg5.block i (by have := HS4.out.2.2.2.size; omega) (fun e => by have := Option.some.inj e; omega)⟩
    exact bodyPost_ret (v := .tuple #[.agg #[.bool true, .int .i64 c.ms, .string (T c.ss), .slice a2 n2 k2, .slice ad l.length cpo, .string (T c.pt)], .int .i64 0, .string (T []), .int .i64 2]) (by simp [results, Tryz.results11, go_sem, q0, q1, q2, q3, q4, q5]) rfl (stErr _ _ dvOk6 (by omega) hb5)
  have hrb2 := hrb rfl
  clear hrb
  by_cases h108 : m.kind = 108
  · have k8 : (m.kind == 108) = true := by simp [h108]
    obtain ⟨d0, d1, d2, d3, d4, d5⟩ := six_cells HD4.out
    obtain ⟨z0, z1, z2, z3, z4, z5⟩ := six_cells HS4.out.2.2.1
    obtain ⟨f0, f1, f2, f3, f4, f5⟩ := six_frozen HS4.out.2.2.1
    go_wp2_with fail
    have hq := six_stored (v0 := .bool true) (v1 := .int .i64 c.ms) (v2 := .string (T c.ss)) (v3 := .slice a2 n2 k2) (v4 := .slice ad l.length cpo) (v5 := .string (T c.pt)) HS4.out.2.2.1
    obtain ⟨q0, q1, q2, q3, q4, q5⟩ := six_cells hq
    have hg5 := six_grown (W := w4) (w.heap.size + 1 + 1) (.bool true) (.int .i64 c.ms) (.string (T c.ss)) (.slice a2 n2 k2) (.slice ad l.length cpo) (.string (T c.pt))
    have hb5 : Below w.heap.size w _ := HS4.out.2.2.2.trans ⟨hg5.os, hg5.tape, hg5.output, hg5.size, fun i hi => hg5.block i (by have := HS4.out.2.2.2.size; omega) (fun e => by have := Option.some.inj e; omega)⟩
    exact bodyPost_ret (v := .tuple #[.agg #[.bool true, .int .i64 c.ms, .string (T c.ss), .slice a2 n2 k2, .slice ad l.length cpo, .string (T c.pt)], .int .i64 0, .string (T []), .int .i64 2]) (by simp [results, Tryz.results11, go_sem, q0, q1, q2, q3, q4, q5]) rfl (stErr _ _ dvOk6 (by omega) hb5)
  have k8 : (m.kind == 108) = false := by simp [h108]
  have HRE := lh (show IsReq m.kind from hrb2.elim id (fun h => absurd h h108))
  clear hrb2 h108
  have hb := HS4.out.2.2.2
  go_wp2_with fail
  (with_reducible refine (HHV.out _ hb).mono ?_); rintro e w5 ⟨hvb, rfl, _, b5⟩
  have HS5 := lh (HS4.out.next b5)
  have HO5 := lh (own_next HO4.out b5)
  have HD5 := lh ((b5.block _ (row_ltP HD4.out)).trans HD4.out)
  clear b5 hb HS4 HO4 HD4 k0 c0 c1 c2 c3 c4 c5 HHV
  have k0 := HKD.out _ _ HS5.out.2.1
  obtain ⟨c0, c1, c2, c3, c4, c5⟩ := six_cells HS5.out.1
  cases hvb
  rotate_left
  · obtain ⟨d0, d1, d2, d3, d4, d5⟩ := six_cells HD5.out
    obtain ⟨z0, z1, z2, z3, z4, z5⟩ := six_cells HS5.out.2.2.1
    obtain ⟨f0, f1, f2, f3, f4, f5⟩ := six_frozen HS5.out.2.2.1
    go_wp2_with fail
    have hq := six_stored (v0 := .bool true) (v1 := .int .i64 c.ms) (v2 := .string (T c.ss)) (v3 := .slice a2 n2 k2) (v4 := .slice ad l.length cpo) (v5 := .string (T c.pt)) HS5.out.2.2.1
    obtain ⟨q0, q1, q2, q3, q4, q5⟩ := six_cells hq
    have hg5 := six_grown (W := w5) (w.heap.size + 1 + 1) (.bool true) (.int .i64 c.ms) (.string (T c.ss)) (.slice a2 n2 k2) (.slice ad l.length cpo) (.string (T c.pt))
    have hb5 : Below w.heap.size w _ := HS5.out.2.2.2.trans ⟨hg5.os, hg5.tape, hg5.output, hg5.size, fun i hi => hg5.block i (by have := HS5.out.2.2.2.size; omega) (fun e => by have := Option.some.inj e; omega)⟩
    exact bodyPost_ret (v := .tuple #[.agg #[.bool true, .int .i64 c.ms, .string (T c.ss), .slice a2 n2 k2, .slice ad l.length cpo, .string (T c.pt)], .int .i64 0, .string (T []), .int .i64 17]) (by simp [results, Tryz.results11, go_sem, q0, q1, q2, q3, q4, q5]) rfl (stErr _ _ dvOk6 (by omega) hb5)
  by_cases hl64 : 64 ≤ l.length
  · have kl64 : (64 : Int) ≤ l.length := by omega
    obtain ⟨d0, d1, d2, d3, d4, d5⟩ := six_cells HD5.out
    obtain ⟨z0, z1, z2, z3, z4, z5⟩ := six_cells HS5.out.2.2.1
    obtain ⟨f0, f1, f2, f3, f4, f5⟩ := six_frozen HS5.out.2.2.1
    go_wp2_with fail
    have hq := six_stored (v0 := .bool true) (v1 := .int .i64 c.ms) (v2 := .string (T c.ss)) (v3 := .slice a2 n2 k2) (v4 := .slice ad l.length cpo) (v5 := .string (T c.pt)) HS5.out.2.2.1
    obtain ⟨q0, q1, q2, q3, q4, q5⟩ := six_cells hq
    have hg5 := six_grown (W := w5) (w.heap.size + 1 + 1) (.bool true) (.int .i64 c.ms) (.string (T c.ss)) (.slice a2 n2 k2) (.slice ad l.length cpo) (.string (T c.pt))
    have hb5 : Below w.heap.size w _ := HS5.out.2.2.2.trans ⟨hg5.os, hg5.tape, hg5.output, hg5.size, fun i hi => hg5.block i (by have := HS5.out.2.2.2.size; omega) (fun e => by have := Option.some.inj e; omega)⟩
    exact bodyPost_ret (v := .tuple #[.agg #[.bool true, .int .i64 c.ms, .string (T c.ss), .slice a2 n2 k2, .slice ad l.length cpo, .string (T c.pt)], .int .i64 0, .string (T []), .int .i64 22]) (by simp [results, Tryz.results11, go_sem, q0, q1, q2, q3, q4, q5]) rfl (stErr _ _ dvOk6 (by omega) hb5)
  have kl64 : decide ((64 : Int) ≤ (l.length : Int)) = false := decide_eq_false (by omega)
  have hb := HS5.out.2.2.2
  have HSM := lh (HSZ.out m)
  go_wp2_with (refine wpList_load_row rfl 48 _ rfl (w.heap.size + 1) rfl 48 m.cs.toArray (0, 0) _ HS5.out.2.1 HU.out rfl HSM.out ?_)
  (with_reducible refine (HCL.out _ hb).mono ?_); rintro e w6 ⟨m2, rfl, ⟨hbare, hin⟩, b6⟩
  have HS6 := lh (HS5.out.next b6)
  have HO6 := lh (own_next HO5.out b6)
  have HD6 := lh ((b6.block _ (row_ltP HD5.out)).trans HD5.out)
  have HBR := lh hbare
  have HIN6 := lh hin
  clear b6 hb hbare hin HS5 HO5 HD5 k0 c0 c1 c2 c3 c4 c5 HCL HSM
  have HS2Z := lh (HSZ.out m2)
  have HA2 := lh (HAL.out m2 HIN6.out.ok)
  have HM2 := lh (HMZ.out m2)
  have hz6 := heap_alloc_new w6 (.cells mg0.cs.toArray 48)
  go_upto_region 12 with (refine wpList_store_row rfl 48 _ _ rfl w6.heap.size m2.cs.toArray rfl rfl 48 mg0.cs.toArray hz6 HS2Z.out HM2.out HA2.out ?_)
  generalize hw7 : World.setRow _ _ _ = w7
  have b7 := (show Below w6.heap.size w6 w7 from by rw [← hw7]; exact below_setRow (alloc_below w6 _) (Nat.le_refl _) _)
  have K7 := lh (show w7.heap[w6.heap.size]? = some (mgobj m2) from by rw [← hw7]; exact heap_setRow_same (heap_alloc_new w6 _))
  have HS7 := lh (HS6.out.next b7)
  have HO7 := lh (own_next HO6.out b7)
  have HD7 := lh ((b7.block _ (row_ltP HD6.out)).trans HD6.out)
  have HIN7 := lh (HIN6.out.below b7)
  have hdg : d < w6.heap.size := row_ltP HD6.out
  have HNB := lh (show (∀ ad n k, m2.names = .slice (some ad) n k → ns ≠ [] → ad.block < w6.heap.size) ∧ (∀ ad n k, m2.qids = .slice (some ad) n k → qs ≠ [] → ad.block < w6.heap.size) from HIN6.out.blocks)
  clear hz6 hw7 b7 HS6 HO6 HD6 HIN6 HS2Z HA2 HM2
  generalize w6.heap.size = g at *
  obtain ⟨⟨x0, y0⟩, z0⟩ := HTG.out (m2) w7 g (65535) K7.out
  have K8 := lh z0
  have hg7 := grown_setG (below_grownBy (Below.refl _ w7) (some g)) 1 (.int .i64 (65535))
  have HS8 := lh (HS7.out.far hg7 (by omega))
  have HO8 := lh (HO7.out.kept hg7 (Or.inr (own_neP HO7.out K7.out (by decide))))
  have HD8 := lh ((hg7.block d (row_ltP HD7.out) (fun e => by have := Option.some.inj e; omega)).trans HD7.out)
  have HIN8 := lh (mgin_far (m := m2) (t := m2.tag) (t2 := 65535) HIN7.out hg7 HNB.out)
  clear z0 hg7 HS7 HO7 HD7 K7 HIN7
  go_upto_region 13 with fail
  generalize World.setCell w7 ⟨g, 1, none⟩ (.int .i64 (65535)) = y8 at *
  clear x0 y0
  obtain ⟨c0, c1, c2, c3, c4, c5⟩ := six_cells HS8.out.1
  have hb := HS8.out.2.2.2
  go_wp2_with fail
  (with_reducible refine (HFR.out _ hb).mono ?_); rintro e w9 ⟨tg, rfl, htg, b9⟩
  have HTT := lh htg
  have HS9 := lh (HS8.out.next b9)
  have HO9 := lh (own_next HO8.out b9)
  have HD9 := lh ((b9.block _ (row_ltP HD8.out)).trans HD8.out)
  have HIN9 := lh (HIN8.out.below b9)
  have K9 := lh ((b9.block _ (row_ltP K8.out)).trans K8.out)
  clear b9 hb htg HS8 HO8 HD8 K8 HIN8 c0 c1 c2 c3 c4 c5
  obtain ⟨⟨x0, y0⟩, z0⟩ := HTG.out ({ m2 with tag := 65535 }) w9 g (tg) K9.out
  have K10 := lh z0
  have hg7 := grown_setG (below_grownBy (Below.refl _ w9) (some g)) 1 (.int .i64 (tg))
  have HS10 := lh (HS9.out.far hg7 (by omega))
  have HO10 := lh (HO9.out.kept hg7 (Or.inr (own_neP HO9.out K9.out (by decide))))
  have HD10 := lh ((hg7.block d (row_ltP HD9.out) (fun e => by have := Option.some.inj e; omega)).trans HD9.out)
  have HIN10 := lh (mgin_far (m := m2) (t := 65535) (t2 := tg) HIN9.out hg7 HNB.out)
  clear z0 hg7 HS9 HO9 HD9 K9 HIN9
  go_upto_region 15 with fail
  generalize World.setCell w9 ⟨g, 1, none⟩ (.int .i64 (tg)) = y10 at *
  clear x0 y0
  obtain ⟨c0, c1, c2, c3, c4, c5⟩ := six_cells HS10.out.1
  have HINX := lh (show MgIn y10 { m2 with tag := tg } ns qs from HIN10.out)
  have HREX := lh (show IsReq ({ m2 with tag := tg } : Mg).kind from by show IsReq m2.kind; rw [show m2.kind = m.kind from show m2.bare.kind = m.bare.kind from by rw [HBR.out]]; exact HRE.out)
  have HENX := lh (HEN.out { m2 with tag := tg } y10 HREX.out HINX.out)
  rw [hup] at HENX
  have HST := lh (reqb_tag m2 m ns (tg) HBR.out)
  have HCS := lh (fun (h : Chk { m2 with tag := tg } ns qs) => chk_same { m2 with tag := tg } { m with tag := tg } ns qs HST.out.2.2 h)
  have HKX := lh (show y10.heap[g]? = some (mgobj { m2 with tag := tg }) from K10.out)
  have HSX := lh (HSZ.out { m2 with tag := tg })
  have HBUX := lh (HBU.out { m2 with tag := tg })
  have HBSX := lh (HBS.out { m2 with tag := tg })
  have HML : RowKit.Hid ((({ m2 with tag := tg } : Mg).cs ++ [Value.int .i64 65535]).length = 40) := lh rfl
  have HMO : RowKit.Hid (∀ u ∈ ({ m2 with tag := tg } : Mg).cs ++ [Value.int .i64 65535], u.oneCell' = true) := lh (by
    intro u hu
    rcases List.mem_append.1 hu with h | h
    · exact ({ m2 with tag := tg } : Mg).one HINX.out.ok u h
    · simp only [List.mem_singleton] at h; subst h; rfl)
  have HKT := lh (show ∀ (V : World), V.heap[g]? = some (mgobj { m2 with tag := tg }) → V.cell? ⟨g, 1, none⟩ = some (.int .i64 (tg)) from fun V h => by rw [Lib.cell_of_heap h]; rfl)
  have HFIN := lh (fun (dv : Array Value) (W' : World) (hd : DvOk dv) (h : Chk { m2 with tag := tg } ns qs ∧ (reqc { m2 with tag := tg } ns).length + 4 ≤ 8192) (hb : Below w.heap.size w W') => (show StSay w m ns qs (.returned (.tuple #[.agg dv, .int .i64 (tg), .string (T (reqb { m2 with tag := tg } ns)), .int .i64 0])) W' from by
    rw [HST.out.1]
    exact ⟨⟨dv, hd, Or.inr ⟨tg, ⟨HRE.out, HCS.out h.1, by rw [← HST.out.2.1]; exact h.2⟩, rfl⟩⟩, hb⟩))
  clear HIN10 K10 HINX HREX HEN HST HCS HSZ HBU HBS HTG HAL HMZ HNB HKD
  unfold mgobj at *
  generalize hLX : ({ m2 with tag := tg } : Mg).cs = LX at *
  clear hLX
  go_wp2_with (refine wpList_load_row rfl 48 _ rfl g rfl 48 LX.toArray (0, 0) _ HKX.out HU.out rfl HSX.out ?_)
  (with_reducible refine HENX.out.mono ?_); rintro e wa ⟨hput, ba⟩
  have HSa := lh (HS10.out.next ba)
  have HOa := lh (own_next HO10.out ba)
  have HDa := lh ((ba.block _ (row_ltP HD10.out)).trans HD10.out)
  have Ka := lh ((ba.block _ (row_ltP HKX.out)).trans HKX.out)
  clear ba HS10 HO10 HD10 HKX HENX c0 c1 c2 c3 c4 c5
  rcases hput with ⟨k, hk, rfl⟩ | ⟨hok, rfl⟩
  · have ht : (k != 0) = true := by simp [hk]
    have HKK := lh hk
    clear hk
    obtain ⟨d0, d1, d2, d3, d4, d5⟩ := six_cells HDa.out
    obtain ⟨z0, z1, z2, z3, z4, z5⟩ := six_cells HSa.out.2.2.1
    obtain ⟨f0, f1, f2, f3, f4, f5⟩ := six_frozen HSa.out.2.2.1
    go_wp2_with fail
    have hq := six_stored (v0 := .bool true) (v1 := .int .i64 c.ms) (v2 := .string (T c.ss)) (v3 := .slice a2 n2 k2) (v4 := .slice ad l.length cpo) (v5 := .string (T c.pt)) HSa.out.2.2.1
    obtain ⟨q0, q1, q2, q3, q4, q5⟩ := six_cells hq
    have hg5 := six_grown (W := wa) (w.heap.size + 1 + 1) (.bool true) (.int .i64 c.ms) (.string (T c.ss)) (.slice a2 n2 k2) (.slice ad l.length cpo) (.string (T c.pt))
    have hb5 : Below w.heap.size w _ := HSa.out.2.2.2.trans ⟨hg5.os, hg5.tape, hg5.output, hg5.size, fun i hi => hg5.block i (by have := HSa.out.2.2.2.size; omega) (fun e => by have := Option.some.inj e; omega)⟩
    exact bodyPost_ret (v := .tuple #[.agg #[.bool true, .int .i64 c.ms, .string (T c.ss), .slice a2 n2 k2, .slice ad l.length cpo, .string (T c.pt)], .int .i64 0, .string (T []), .int .i64 k]) (by simp [results, Tryz.results11, go_sem, q0, q1, q2, q3, q4, q5]) rfl (stErr _ _ dvOk6 (HKK.out) hb5)
  have HOKX := lh hok
  clear hok
  generalize hrb : reqb { m2 with tag := tg } ns = rb at *
  clear hrb
  go_upto_region 18 with fail
  obtain ⟨c0, c1, c2, c3, c4, c5⟩ := six_cells HDa.out
  obtain ⟨f0, f1, f2, f3, f4, f5⟩ := six_frozen HDa.out
  have hsza := HSa.out.2.2.2.size
  have hszb := (alloc_below wa (.cells (LX ++ [Value.int .i64 65535]).toArray 82)).size
  go_wp2_with (first | refine wpList_load_row rfl 48 _ rfl g rfl 48 LX.toArray (0, 0) _ Ka.out HU.out rfl HSX.out ?_ | refine wpList_build_at rfl 82 _ rfl (LX ++ [Value.int .i64 65535]).toArray (by simp only [List.map_toArray, List.map_cons, List.map_nil]; exact HBUX.out) ?_ | refine Great.wpList_buildSliceTo rfl 39 82 1 _ rfl wa.heap.size rfl _ rfl Tryz.underlying39 (LX ++ [Value.int .i64 65535]).toArray (by simp only [List.map_toArray, List.map_cons, List.map_nil]; exact HBSX.out) ?_ | (at_builtin; refine wpList_append_any _ rfl _ _ 39 rfl w.heap.size 82 i0 (.agg (mg0.cs ++ [Value.int .i64 0]).toArray) 40 432 Tryz.underlying39 hi hz0 hz1 hz2 rfl (by decide) (.slice ad l.length cpo) l.length xs rfl (HOa.out.alloc _) (some ⟨wa.heap.size, 0, none⟩) 1 1 (LX ++ [Value.int .i64 65535]) rfl (fun h => nomatch h) (by rw [HML.out]) ?c2 HMO.out ?c4 ?c5 ?c6 ?_))
  case c2 =>
    intro ad2 had
    cases had
    exact World.news_of_block (t := 82) (fr := (0, 0)) (heap_alloc_new wa _)
  case c4 => unfold maxLen; omega
  case c5 => omega
  case c6 => omega
  intro v2 wb hown2 hgrow2 _
  obtain ⟨ao3, cp3, rfl, _⟩ := own_form hown2
  have hal := alloc_below wa (.cells (LX ++ [Value.int .i64 65535]).toArray 82)
  have hoal := HOa.out.alloc (.cells (LX ++ [Value.int .i64 65535]).toArray 82)
  have HSb := lh ((HSa.out.next hal).own hoal hgrow2)
  have HDb := lh (own_keep hoal hgrow2 ((hal.block _ (row_ltP HDa.out)).trans HDa.out) (by decide))
  have Kb := lh (own_keep hoal hgrow2 ((hal.block _ (row_ltP Ka.out)).trans Ka.out) (by decide))
  clear hal hoal hown2 hgrow2 HSa HDa Ka HOa c0 c1 c2 c3 c4 c5 f0 f1 f2 f3 f4 f5 hsza hszb
  generalize LX ++ [Value.int .i64 65535] = LC at *
  obtain ⟨c0, c1, c2, c3, c4, c5⟩ := six_cells HDb.out
  obtain ⟨f0, f1, f2, f3, f4, f5⟩ := six_frozen HDb.out
  have hdc := heap_setCell_same wb d 4 _ _ (.slice ao3 (l.length + 1) cp3) HDb.out
  have hgc := grown_setG (below_grownBy (Below.refl _ wb) (some d)) 4 (.slice ao3 (l.length + 1) cp3)
  have HSc := lh (HSb.out.far hgc (by omega))
  have Kc := lh ((hgc.block _ (row_ltP Kb.out) (fun e => by have := Option.some.inj e; omega)).trans Kb.out)
  have HDc := lh (show (wb.setCell ⟨d, 4, none⟩ (.slice ao3 (l.length + 1) cp3)).heap[d]? = some (.cells #[.bool c.up, .int .i64 c.ms, .string (T c.ss), .slice a2 n2 k2, .slice ao3 (l.length + 1) cp3, .string (T c.pt)] 41 (0, 0)) from hdc)
  clear HSb HDb Kb hgc hdc
  go_upto_region 19 with fail
  generalize World.setCell wb ⟨d, 4, none⟩ (.slice ao3 (l.length + 1) cp3) = wc at *
  clear c0 c1 c2 c3 c4 c5 f0 f1 f2 f3 f4 f5
  obtain ⟨c0, c1, c2, c3, c4, c5⟩ := six_cells HDc.out
  have k1 := HKT.out wc Kc.out
  obtain ⟨f0, f1, f2, f3, f4, f5⟩ := six_frozen HSc.out.2.2.1
  go_wp2_with fail
  obtain ⟨d0, d1, d2, d3, d4, d5⟩ := six_cells HSc.out.2.2.1
  go_region
  have hq := six_stored (v0 := .bool true) (v1 := .int .i64 c.ms) (v2 := .string (T c.ss)) (v3 := .slice a2 n2 k2) (v4 := .slice ao3 (l.length + 1) cp3) (v5 := .string (T c.pt)) HSc.out.2.2.1
  obtain ⟨q0, q1, q2, q3, q4, q5⟩ := six_cells hq
  have hg5 := six_grown (W := wc) (w.heap.size + 1 + 1) (.bool true) (.int .i64 c.ms) (.string (T c.ss)) (.slice a2 n2 k2) (.slice ao3 (l.length + 1) cp3) (.string (T c.pt))
  have hb5 : Below w.heap.size w _ := HSc.out.2.2.2.trans ⟨hg5.os, hg5.tape, hg5.output, hg5.size, fun i hi => hg5.block i (by have := HSc.out.2.2.2.size; omega) (fun e => by have := Option.some.inj e; omega)⟩
  go_wp2_with fail
  refine bodyPost_ret (v := .tuple #[.agg #[.bool true, .int .i64 c.ms, .string (T c.ss), .slice a2 n2 k2, .slice ao3 (l.length + 1) cp3, .string (T c.pt)], .int .i64 (tg), .string (T rb), .int .i64 0]) ?_ rfl ?_
  · simp [results, Tryz.results11, go_sem, q0, q1, q2, q3, q4, q5]
  · exact HFIN.out _ _ dvOk6 HOKX.out (bnext hb5 (below_drew1 _))
theorem start_any (c : Cln) (fv cv : Value) (fl : List Int) (l : List Cll) (m : Mg) (ns : List (List UInt8)) (qs : List (Int × Int × Int)) (w : World) (hf : Its w fv fl) (hc : Clls w cv l) (hm : MgIn w m ns qs) (hfl : fl.length ≤ 2000000) (hl : l.length ≤ 100) (hq : ∀ x ∈ l, x.ns.length ≤ 8796093021952 ∧ x.qs.length ≤ 5864062014634) (hns : ns.length ≤ 8796093021952) (hqs : qs.length ≤ 5864062014634) :
    Calls Tryz.prog 11 #[.agg (c.cs fv cv), .agg m.cs.toArray] w (StSay w m ns qs) := by
  by_cases hv : m.kind = 100
  · exact start_v c fv cv fl l m ns qs w hv hf hc hm hfl hl hq hns hqs
  · exact start_n c fv cv fl l m ns qs w hv hf hc hm hfl hl hq hns hqs
end Go.Proofs.YtfibaopngpfmjaaGreatDoor
