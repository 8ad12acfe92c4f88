/- The reader's fields. Conditions: those that each theorem names. -/
import Derived.Test.YtfibaopngpfmjaaGreatDoorRzE2
set_option linter.unusedVariables false
set_option linter.unusedSimpArgs false
set_option maxRecDepth 100000
set_option maxHeartbeats 4000000
namespace Go.Proofs.YtfibaopngpfmjaaGreatDoor
open Go.RowKit Go.Proofs
/-- Two blocks at most have changed, and there are new ones. -/
def Gr2 (g p : Nat) (w w' : World) : Prop := (w'.os = w.os ∧ w'.tape = w.tape ∧ w'.output = w.output) ∧ w.heap.size ≤ w'.heap.size ∧ ∀ i, i < w.heap.size → i ≠ g → i ≠ p → w'.heap[i]? = w.heap[i]?
theorem Gr2.refl (g p : Nat) (w : World) : Gr2 g p w w := ⟨⟨rfl, rfl, rfl⟩, Nat.le_refl _, fun _ _ _ _ => rfl⟩
theorem Gr2.trans {g p : Nat} {a b c : World} (h : Gr2 g p a b) (k : Gr2 g p b c) : Gr2 g p a c :=
 ⟨⟨k.1.1.trans h.1.1, k.1.2.1.trans h.1.2.1, k.1.2.2.trans h.1.2.2⟩, Nat.le_trans h.2.1 k.2.1, fun i hi h1 h2 => (k.2.2 i (Nat.lt_of_lt_of_le hi h.2.1) h1 h2).trans (h.2.2 i hi h1 h2)⟩
theorem Gr2.of_g {g p : Nat} {w w' : World} (h : w.grownBy w' (some g)) : Gr2 g p w w' := ⟨⟨h.os, h.tape, h.output⟩, h.size, fun i hi h1 _ => h.block i hi (fun e => h1 (Option.some.inj e))⟩
theorem Gr2.of_p {g p : Nat} {w w' : World} (h : w.grownBy w' (some p)) : Gr2 g p w w' := ⟨⟨h.os, h.tape, h.output⟩, h.size, fun i hi _ h1 => h.block i hi (fun e => h1 (Option.some.inj e))⟩
theorem Gr2.below {g p B : Nat} {w w' : World} (h : Gr2 g p w w') (hg : B ≤ g) (hp : B ≤ p) (hB : B ≤ w.heap.size) : Below B w w' := ⟨h.1.1, h.1.2.1, h.1.2.2, h.2.1, fun i hi => h.2.2 i (by omega) (by omega) (by omega)⟩
theorem Txs.gr2 {g p : Nat} {w w' : World} {v : Value} {l : List (List UInt8)} (h : Txs w v l) (hv : ∀ ad n c, v = .slice (some ad) n c → ad.block ≠ g ∧ ad.block ≠ p) (k : Gr2 g p w w') : Txs w' v l := by
 obtain ⟨ao, cap, e, hc, hn, hcell⟩ := h
 refine ⟨ao, cap, e, hc, hn, fun j hj => ?_⟩
 obtain ⟨b, off, ha, hlt, c0⟩ := hcell j hj
 subst ha
 obtain ⟨h1, h2⟩ := hv _ _ _ e
 refine ⟨b, off, rfl, Nat.lt_of_lt_of_le hlt k.2.1, ?_⟩
 rw [← c0]
 simp only [World.cell?]
 rw [k.2.2 b hlt h1 h2]
/-- What field leaves. -/
def RfSay (g p : Nat) (s : List UInt8) (a : Nat) (x : Mg) (m : Mg) (ns : List (List UInt8)) (c : UInt8) (w : World) (e : Ending) (w' : World) : Prop :=
 ∃ x', e = .returned (.tuple #[]) ∧ RdRow w' g s (a + (enc m ns c).length) ∧ w'.heap[p]? = some (mgobj x') ∧ (x'.bare = (setfb m x c).bare ∧ x'.qids = x.qids ∧ (c = 119 → Txs w' x'.names ns ∧ ∀ ad n k, x'.names = .slice (some ad) n k → w.heap.size ≤ ad.block) ∧ (c ≠ 119 → x'.names = x.names)) ∧ Gr2 g p w w'
theorem rfld_77 (g p : Nat) (s : List UInt8) (a : Nat) (x m : Mg) (ns : List (List UInt8)) (w : World) (h0 : RdRow w g s a) (hm : w.heap[p]? = some (mgobj x)) (hgp : g ≠ p) (hat : At s a (Oct.le 1 m.mode.toNat)) (ho : 0 ≤ m.mode ∧ m.mode < 256) (hl : s.length ≤ 1000000) : Calls Tryz.prog 33 #[.pointer (some ⟨g, 0, none⟩), .pointer (some ⟨p, 0, none⟩), .int .u8 77] w (RfSay g p s a x m ns 77 w) := by
 have HN := lh (fun (W : World) (h : RdRow W g s a) => show Calls Tryz.prog 31 #[.pointer (some ⟨g, 0, none⟩), .int .i64 1] W fun e w' => e = .returned (.int .i64 m.mode) ∧ RdRow w' g s (a + (Oct.le 1 m.mode.toNat).length) ∧ W.grownBy w' (some g) from by
  have := rnumv_any g s a 1 m.mode.toNat W h hat (by omega) (by omega) (by omega) (by omega) hl
  rw [show ((m.mode.toNat : Nat) : Int) = m.mode from by omega] at this
  rw [Oct.le_length]
  exact this)
 have HC := lh (show ∀ W : World, W.heap[p]? = some (mgobj x) → ((W.cell? ⟨p, 16, none⟩ = some (.int .i64 x.mode)) ∧ W.frozen? ⟨p, 16, none⟩ = false) ∧ (W.setCell ⟨p, 16, none⟩ (.int .i64 m.mode)).heap[p]? = some (mgobj { x with mode := m.mode }) from fun W h => ⟨⟨by rw [Lib.cell_of_heap h]; rfl, Lib.frozen_of_heap h _⟩, (mg_set (m := x) (m' := { x with mode := m.mode }) h 16 (.int .i64 m.mode) rfl)⟩)
 have HS := lh h0
 have HM := lh hm
 have HFN := lh (fun (W : World) (hs : RdRow W g s (a + (Oct.le 1 m.mode.toNat).length)) (hp : W.heap[p]? = some (mgobj { x with mode := m.mode })) (hg : Gr2 g p w W) => (show RfSay g p s a x m ns 77 w (.returned (.tuple #[])) W from ⟨_, rfl, hs, hp, ⟨rfl, rfl, fun h => absurd h (by decide), fun _ => rfl⟩, hg⟩))
 clear hat ho hl h0 hm
 generalize mgobj ({ x with mode := m.mode }) = mn at *
 generalize mgobj x = mx at *
 generalize a + (Oct.le 1 m.mode.toNat).length = aq at *
 generalize x.mode = u0 at *
 go_enter Tryz.func33, Tryz.ntmps33
 go_wp2_with fail
 have hs := HS.out
 (with_reducible refine (HN.out _ hs).mono ?_); rintro e w2 ⟨rfl, hs2, g2⟩
 have HM2 := lh (at_grow HM.out g2 (row_ltP HM.out) (fun e => hgp e.symm))
 obtain ⟨⟨c0, f0⟩, k2⟩ := HC.out _ HM2.out
 have HK := lh k2
 have hg3 := (grown_setG (below_grownBy (Below.refl _ w2) (some p)) 16 (.int .i64 m.mode))
 have HS3 := lh (at_grow hs2 hg3 (row_ltP hs2) hgp)
 have HG := lh (Gr2.trans (Gr2.of_g (p := p) g2) (Gr2.of_p (g := g) hg3))
 clear hs hs2 g2 k2 hg3
 go_wp2_with fail
 first | go_end0 | refine bodyPost_ret (results_none rfl _ _ _) rfl ?_
 exact HFN.out _ HS3.out HK.out HG.out
theorem rfld_78 (g p : Nat) (s : List UInt8) (a : Nat) (x m : Mg) (ns : List (List UInt8)) (w : World) (h0 : RdRow w g s a) (hm : w.heap[p]? = some (mgobj x)) (hgp : g ≠ p) (hat : At s a (txt m.name)) (ho : m.name.length ≤ 10000) (hl : s.length ≤ 1000000) : Calls Tryz.prog 33 #[.pointer (some ⟨g, 0, none⟩), .pointer (some ⟨p, 0, none⟩), .int .u8 78] w (RfSay g p s a x m ns 78 w) := by
 have HN := lh (fun (W : World) (h : RdRow W g s a) => rtext_any g s m.name a W h hat (by omega) hl)
 have HC := lh (show ∀ W : World, W.heap[p]? = some (mgobj x) → ((W.cell? ⟨p, 18, none⟩ = some (.string (T x.name))) ∧ W.frozen? ⟨p, 18, none⟩ = false) ∧ (W.setCell ⟨p, 18, none⟩ (.string (T m.name))).heap[p]? = some (mgobj { x with name := m.name }) from fun W h => ⟨⟨by rw [Lib.cell_of_heap h]; rfl, Lib.frozen_of_heap h _⟩, (mg_set (m := x) (m' := { x with name := m.name }) h 18 (.string (T m.name)) rfl)⟩)
 have HS := lh h0
 have HM := lh hm
 have HFN := lh (fun (W : World) (hs : RdRow W g s (a + (txt m.name).length)) (hp : W.heap[p]? = some (mgobj { x with name := m.name })) (hg : Gr2 g p w W) => (show RfSay g p s a x m ns 78 w (.returned (.tuple #[])) W from ⟨_, rfl, hs, hp, ⟨rfl, rfl, fun h => absurd h (by decide), fun _ => rfl⟩, hg⟩))
 clear hat ho hl h0 hm
 generalize mgobj ({ x with name := m.name }) = mn at *
 generalize mgobj x = mx at *
 generalize a + (txt m.name).length = aq at *
 generalize x.name = u0 at *
 go_enter Tryz.func33, Tryz.ntmps33
 go_wp2_with fail
 have hs := HS.out
 (with_reducible refine (HN.out _ hs).mono ?_); rintro e w2 ⟨rfl, hs2, g2⟩
 have HM2 := lh (at_grow HM.out g2 (row_ltP HM.out) (fun e => hgp e.symm))
 obtain ⟨⟨c0, f0⟩, k2⟩ := HC.out _ HM2.out
 have HK := lh k2
 have hg3 := (grown_setG (below_grownBy (Below.refl _ w2) (some p)) 18 (.string (T m.name)))
 have HS3 := lh (at_grow hs2 hg3 (row_ltP hs2) hgp)
 have HG := lh (Gr2.trans (Gr2.of_g (p := p) g2) (Gr2.of_p (g := g) hg3))
 clear hs hs2 g2 k2 hg3
 go_wp2_with fail
 first | go_end0 | refine bodyPost_ret (results_none rfl _ _ _) rfl ?_
 exact HFN.out _ HS3.out HK.out HG.out
theorem rfld_79 (g p : Nat) (s : List UInt8) (a : Nat) (x m : Mg) (ns : List (List UInt8)) (w : World) (h0 : RdRow w g s a) (hm : w.heap[p]? = some (mgobj x)) (hgp : g ≠ p) (hat : At s a (Oct.le 8 m.offset.toNat)) (ho : 0 ≤ m.offset ∧ m.offset < 9223372036854775808) (hl : s.length ≤ 1000000) : Calls Tryz.prog 33 #[.pointer (some ⟨g, 0, none⟩), .pointer (some ⟨p, 0, none⟩), .int .u8 79] w (RfSay g p s a x m ns 79 w) := by
 have HN := lh (fun (W : World) (h : RdRow W g s a) => show Calls Tryz.prog 31 #[.pointer (some ⟨g, 0, none⟩), .int .i64 8] W fun e w' => e = .returned (.int .i64 m.offset) ∧ RdRow w' g s (a + (Oct.le 8 m.offset.toNat).length) ∧ W.grownBy w' (some g) from by
  have := rnumv_any g s a 8 m.offset.toNat W h hat (by omega) (by omega) (by omega) (by omega) hl
  rw [show ((m.offset.toNat : Nat) : Int) = m.offset from by omega] at this
  rw [Oct.le_length]
  exact this)
 have HC := lh (show ∀ W : World, W.heap[p]? = some (mgobj x) → ((W.cell? ⟨p, 19, none⟩ = some (.int .i64 x.offset)) ∧ W.frozen? ⟨p, 19, none⟩ = false) ∧ (W.setCell ⟨p, 19, none⟩ (.int .i64 m.offset)).heap[p]? = some (mgobj { x with offset := m.offset }) from fun W h => ⟨⟨by rw [Lib.cell_of_heap h]; rfl, Lib.frozen_of_heap h _⟩, (mg_set (m := x) (m' := { x with offset := m.offset }) h 19 (.int .i64 m.offset) rfl)⟩)
 have HS := lh h0
 have HM := lh hm
 have HFN := lh (fun (W : World) (hs : RdRow W g s (a + (Oct.le 8 m.offset.toNat).length)) (hp : W.heap[p]? = some (mgobj { x with offset := m.offset })) (hg : Gr2 g p w W) => (show RfSay g p s a x m ns 79 w (.returned (.tuple #[])) W from ⟨_, rfl, hs, hp, ⟨rfl, rfl, fun h => absurd h (by decide), fun _ => rfl⟩, hg⟩))
 clear hat ho hl h0 hm
 generalize mgobj ({ x with offset := m.offset }) = mn at *
 generalize mgobj x = mx at *
 generalize a + (Oct.le 8 m.offset.toNat).length = aq at *
 generalize x.offset = u0 at *
 go_enter Tryz.func33, Tryz.ntmps33
 go_wp2_with fail
 have hs := HS.out
 (with_reducible refine (HN.out _ hs).mono ?_); rintro e w2 ⟨rfl, hs2, g2⟩
 have HM2 := lh (at_grow HM.out g2 (row_ltP HM.out) (fun e => hgp e.symm))
 obtain ⟨⟨c0, f0⟩, k2⟩ := HC.out _ HM2.out
 have HK := lh k2
 have hg3 := (grown_setG (below_grownBy (Below.refl _ w2) (some p)) 19 (.int .i64 m.offset))
 have HS3 := lh (at_grow hs2 hg3 (row_ltP hs2) hgp)
 have HG := lh (Gr2.trans (Gr2.of_g (p := p) g2) (Gr2.of_p (g := g) hg3))
 clear hs hs2 g2 k2 hg3
 go_wp2_with fail
 first | go_end0 | refine bodyPost_ret (results_none rfl _ _ _) rfl ?_
 exact HFN.out _ HS3.out HK.out HG.out
theorem rfld_83 (g p : Nat) (s : List UInt8) (a : Nat) (x m : Mg) (ns : List (List UInt8)) (w : World) (h0 : RdRow w g s a) (hm : w.heap[p]? = some (mgobj x)) (hgp : g ≠ p) (hat : At s a (Oct.le 2 (dirb m).length ++ dirb m)) (ho : DirOk m) (hl : s.length ≤ 1000000) : Calls Tryz.prog 33 #[.pointer (some ⟨g, 0, none⟩), .pointer (some ⟨p, 0, none⟩), .int .u8 83] w (RfSay g p s a x m ns 83 w) := by
 have HN := lh (fun (W : World) (h : RdRow W g s a) => rstat_any g s a m W h hat ho hl)
 have HC := lh (show ∀ W : World, W.heap[p]? = some (mgobj x) → ((W.cell? ⟨p, 22, none⟩ = some (.int .i64 x.st) ∧ W.cell? ⟨p, 23, none⟩ = some (.int .i64 x.sd) ∧ W.cell? ⟨p, 24, none⟩ = some (.int .i64 x.s0) ∧ W.cell? ⟨p, 25, none⟩ = some (.int .i64 x.s1) ∧ W.cell? ⟨p, 26, none⟩ = some (.int .i64 x.s2) ∧ W.cell? ⟨p, 27, none⟩ = some (.int .i64 x.sm) ∧ W.cell? ⟨p, 28, none⟩ = some (.int .i64 x.sat) ∧ W.cell? ⟨p, 29, none⟩ = some (.int .i64 x.smt) ∧ W.cell? ⟨p, 30, none⟩ = some (.int .i64 x.sl) ∧ W.cell? ⟨p, 31, none⟩ = some (.string (T x.sn)) ∧ W.cell? ⟨p, 32, none⟩ = some (.string (T x.su)) ∧ W.cell? ⟨p, 33, none⟩ = some (.string (T x.sg)) ∧ W.cell? ⟨p, 34, none⟩ = some (.string (T x.smu))) ∧ W.frozen? ⟨p, 22, none⟩ = false ∧ W.frozen? ⟨p, 23, none⟩ = false ∧ W.frozen? ⟨p, 24, none⟩ = false ∧ W.frozen? ⟨p, 25, none⟩ = false ∧ W.frozen? ⟨p, 26, none⟩ = false ∧ W.frozen? ⟨p, 27, none⟩ = false ∧ W.frozen? ⟨p, 28, none⟩ = false ∧ W.frozen? ⟨p, 29, none⟩ = false ∧ W.frozen? ⟨p, 30, none⟩ = false ∧ W.frozen? ⟨p, 31, none⟩ = false ∧ W.frozen? ⟨p, 32, none⟩ = false ∧ W.frozen? ⟨p, 33, none⟩ = false ∧ W.frozen? ⟨p, 34, none⟩ = false) ∧ (((((((((((((W.setCell ⟨p, 22, none⟩ (.int .i64 m.st)).setCell ⟨p, 23, none⟩ (.int .i64 m.sd)).setCell ⟨p, 24, none⟩ (.int .i64 m.s0)).setCell ⟨p, 25, none⟩ (.int .i64 m.s1)).setCell ⟨p, 26, none⟩ (.int .i64 m.s2)).setCell ⟨p, 27, none⟩ (.int .i64 m.sm)).setCell ⟨p, 28, none⟩ (.int .i64 m.sat)).setCell ⟨p, 29, none⟩ (.int .i64 m.smt)).setCell ⟨p, 30, none⟩ (.int .i64 m.sl)).setCell ⟨p, 31, none⟩ (.string (T m.sn))).setCell ⟨p, 32, none⟩ (.string (T m.su))).setCell ⟨p, 33, none⟩ (.string (T m.sg))).setCell ⟨p, 34, none⟩ (.string (T m.smu))).heap[p]? = some (mgobj { x with st := m.st, sd := m.sd, s0 := m.s0, s1 := m.s1, s2 := m.s2, sm := m.sm, sat := m.sat, smt := m.smt, sl := m.sl, sn := m.sn, su := m.su, sg := m.sg, smu := m.smu }) from fun W h => ⟨⟨⟨by rw [Lib.cell_of_heap h]; rfl, by rw [Lib.cell_of_heap h]; rfl, by rw [Lib.cell_of_heap h]; rfl, by rw [Lib.cell_of_heap h]; rfl, by rw [Lib.cell_of_heap h]; rfl, by rw [Lib.cell_of_heap h]; rfl, by rw [Lib.cell_of_heap h]; rfl, by rw [Lib.cell_of_heap h]; rfl, by rw [Lib.cell_of_heap h]; rfl, by rw [Lib.cell_of_heap h]; rfl, by rw [Lib.cell_of_heap h]; rfl, by rw [Lib.cell_of_heap h]; rfl, by rw [Lib.cell_of_heap h]; rfl⟩, ⟨Lib.frozen_of_heap h _, Lib.frozen_of_heap h _, Lib.frozen_of_heap h _, Lib.frozen_of_heap h _, Lib.frozen_of_heap h _, Lib.frozen_of_heap h _, Lib.frozen_of_heap h _, Lib.frozen_of_heap h _, Lib.frozen_of_heap h _, Lib.frozen_of_heap h _, Lib.frozen_of_heap h _, Lib.frozen_of_heap h _, Lib.frozen_of_heap h _⟩⟩, (mg_set (m := { x with st := m.st, sd := m.sd, s0 := m.s0, s1 := m.s1, s2 := m.s2, sm := m.sm, sat := m.sat, smt := m.smt, sl := m.sl, sn := m.sn, su := m.su, sg := m.sg }) (m' := { x with st := m.st, sd := m.sd, s0 := m.s0, s1 := m.s1, s2 := m.s2, sm := m.sm, sat := m.sat, smt := m.smt, sl := m.sl, sn := m.sn, su := m.su, sg := m.sg, smu := m.smu }) (mg_set (m := { x with st := m.st, sd := m.sd, s0 := m.s0, s1 := m.s1, s2 := m.s2, sm := m.sm, sat := m.sat, smt := m.smt, sl := m.sl, sn := m.sn, su := m.su }) (m' := { x with st := m.st, sd := m.sd, s0 := m.s0, s1 := m.s1, s2 := m.s2, sm := m.sm, sat := m.sat, smt := m.smt, sl := m.sl, sn := m.sn, su := m.su, sg := m.sg }) (mg_set (m := { x with st := m.st, sd := m.sd, s0 := m.s0, s1 := m.s1, s2 := m.s2, sm := m.sm, sat := m.sat, smt := m.smt, sl := m.sl, sn := m.sn }) (m' := { x with st := m.st, sd := m.sd, s0 := m.s0, s1 := m.s1, s2 := m.s2, sm := m.sm, sat := m.sat, smt := m.smt, sl := m.sl, sn := m.sn, su := m.su }) (mg_set (m := { x with st := m.st, sd := m.sd, s0 := m.s0, s1 := m.s1, s2 := m.s2, sm := m.sm, sat := m.sat, smt := m.smt, sl := m.sl }) (m' := { x with st := m.st, sd := m.sd, s0 := m.s0, s1 := m.s1, s2 := m.s2, sm := m.sm, sat := m.sat, smt := m.smt, sl := m.sl, sn := m.sn }) (mg_set (m := { x with st := m.st, sd := m.sd, s0 := m.s0, s1 := m.s1, s2 := m.s2, sm := m.sm, sat := m.sat, smt := m.smt }) (m' := { x with st := m.st, sd := m.sd, s0 := m.s0, s1 := m.s1, s2 := m.s2, sm := m.sm, sat := m.sat, smt := m.smt, sl := m.sl }) (mg_set (m := { x with st := m.st, sd := m.sd, s0 := m.s0, s1 := m.s1, s2 := m.s2, sm := m.sm, sat := m.sat }) (m' := { x with st := m.st, sd := m.sd, s0 := m.s0, s1 := m.s1, s2 := m.s2, sm := m.sm, sat := m.sat, smt := m.smt }) (mg_set (m := { x with st := m.st, sd := m.sd, s0 := m.s0, s1 := m.s1, s2 := m.s2, sm := m.sm }) (m' := { x with st := m.st, sd := m.sd, s0 := m.s0, s1 := m.s1, s2 := m.s2, sm := m.sm, sat := m.sat }) (mg_set (m := { x with st := m.st, sd := m.sd, s0 := m.s0, s1 := m.s1, s2 := m.s2 }) (m' := { x with st := m.st, sd := m.sd, s0 := m.s0, s1 := m.s1, s2 := m.s2, sm := m.sm }) (mg_set (m := { x with st := m.st, sd := m.sd, s0 := m.s0, s1 := m.s1 }) (m' := { x with st := m.st, sd := m.sd, s0 := m.s0, s1 := m.s1, s2 := m.s2 }) (mg_set (m := { x with st := m.st, sd := m.sd, s0 := m.s0 }) (m' := { x with st := m.st, sd := m.sd, s0 := m.s0, s1 := m.s1 }) (mg_set (m := { x with st := m.st, sd := m.sd }) (m' := { x with st := m.st, sd := m.sd, s0 := m.s0 }) (mg_set (m := { x with st := m.st }) (m' := { x with st := m.st, sd := m.sd }) (mg_set (m := x) (m' := { x with st := m.st }) h 22 (.int .i64 m.st) rfl) 23 (.int .i64 m.sd) rfl) 24 (.int .i64 m.s0) rfl) 25 (.int .i64 m.s1) rfl) 26 (.int .i64 m.s2) rfl) 27 (.int .i64 m.sm) rfl) 28 (.int .i64 m.sat) rfl) 29 (.int .i64 m.smt) rfl) 30 (.int .i64 m.sl) rfl) 31 (.string (T m.sn)) rfl) 32 (.string (T m.su)) rfl) 33 (.string (T m.sg)) rfl) 34 (.string (T m.smu)) rfl)⟩)
 have HS := lh h0
 have HM := lh hm
 have HFN := lh (fun (W : World) (hs : RdRow W g s (a + (Oct.le 2 (dirb m).length ++ dirb m).length)) (hp : W.heap[p]? = some (mgobj { x with st := m.st, sd := m.sd, s0 := m.s0, s1 := m.s1, s2 := m.s2, sm := m.sm, sat := m.sat, smt := m.smt, sl := m.sl, sn := m.sn, su := m.su, sg := m.sg, smu := m.smu })) (hg : Gr2 g p w W) => (show RfSay g p s a x m ns 83 w (.returned (.tuple #[])) W from ⟨_, rfl, hs, hp, ⟨rfl, rfl, fun h => absurd h (by decide), fun _ => rfl⟩, hg⟩))
 clear hat ho hl h0 hm
 generalize mgobj ({ x with st := m.st, sd := m.sd, s0 := m.s0, s1 := m.s1, s2 := m.s2, sm := m.sm, sat := m.sat, smt := m.smt, sl := m.sl, sn := m.sn, su := m.su, sg := m.sg, smu := m.smu }) = mn at *
 generalize mgobj x = mx at *
 unfold Mg.ds at *
 generalize a + (Oct.le 2 (dirb m).length ++ dirb m).length = aq at *
 generalize x.st = u0 at *
 generalize x.sd = u1 at *
 generalize x.s0 = u2 at *
 generalize x.s1 = u3 at *
 generalize x.s2 = u4 at *
 generalize x.sm = u5 at *
 generalize x.sat = u6 at *
 generalize x.smt = u7 at *
 generalize x.sl = u8 at *
 generalize x.sn = u9 at *
 generalize x.su = u10 at *
 generalize x.sg = u11 at *
 generalize x.smu = u12 at *
 go_enter Tryz.func33, Tryz.ntmps33
 go_wp2_with fail
 have hs := HS.out
 (with_reducible refine (HN.out _ hs).mono ?_); rintro e w2 ⟨rfl, hs2, g2⟩
 have HM2 := lh (at_grow HM.out g2 (row_ltP HM.out) (fun e => hgp e.symm))
 obtain ⟨⟨⟨c0, c1, c2, c3, c4, c5, c6, c7, c8, c9, c10, c11, c12⟩, ⟨f0, f1, f2, f3, f4, f5, f6, f7, f8, f9, f10, f11, f12⟩⟩, k2⟩ := HC.out _ HM2.out
 have HK := lh k2
 have hg3 := (grown_setG (grown_setG (grown_setG (grown_setG (grown_setG (grown_setG (grown_setG (grown_setG (grown_setG (grown_setG (grown_setG (grown_setG (grown_setG (below_grownBy (Below.refl _ w2) (some p)) 22 (.int .i64 m.st)) 23 (.int .i64 m.sd)) 24 (.int .i64 m.s0)) 25 (.int .i64 m.s1)) 26 (.int .i64 m.s2)) 27 (.int .i64 m.sm)) 28 (.int .i64 m.sat)) 29 (.int .i64 m.smt)) 30 (.int .i64 m.sl)) 31 (.string (T m.sn))) 32 (.string (T m.su))) 33 (.string (T m.sg))) 34 (.string (T m.smu)))
 have HS3 := lh (at_grow hs2 hg3 (row_ltP hs2) hgp)
 have HG := lh (Gr2.trans (Gr2.of_g (p := p) g2) (Gr2.of_p (g := g) hg3))
 clear hs hs2 g2 k2 hg3
 go_wp2_with fail
 first | go_end0 | refine bodyPost_ret (results_none rfl _ _ _) rfl ?_
 exact HFN.out _ HS3.out HK.out HG.out
theorem rfld_97 (g p : Nat) (s : List UInt8) (a : Nat) (x m : Mg) (ns : List (List UInt8)) (w : World) (h0 : RdRow w g s a) (hm : w.heap[p]? = some (mgobj x)) (hgp : g ≠ p) (hat : At s a (Oct.le 4 m.authFid.toNat)) (ho : 0 ≤ m.authFid ∧ m.authFid < 4294967296) (hl : s.length ≤ 1000000) : Calls Tryz.prog 33 #[.pointer (some ⟨g, 0, none⟩), .pointer (some ⟨p, 0, none⟩), .int .u8 97] w (RfSay g p s a x m ns 97 w) := by
 have HN := lh (fun (W : World) (h : RdRow W g s a) => show Calls Tryz.prog 31 #[.pointer (some ⟨g, 0, none⟩), .int .i64 4] W fun e w' => e = .returned (.int .i64 m.authFid) ∧ RdRow w' g s (a + (Oct.le 4 m.authFid.toNat).length) ∧ W.grownBy w' (some g) from by
  have := rnumv_any g s a 4 m.authFid.toNat W h hat (by omega) (by omega) (by omega) (by omega) hl
  rw [show ((m.authFid.toNat : Nat) : Int) = m.authFid from by omega] at this
  rw [Oct.le_length]
  exact this)
 have HC := lh (show ∀ W : World, W.heap[p]? = some (mgobj x) → ((W.cell? ⟨p, 4, none⟩ = some (.int .i64 x.authFid)) ∧ W.frozen? ⟨p, 4, none⟩ = false) ∧ (W.setCell ⟨p, 4, none⟩ (.int .i64 m.authFid)).heap[p]? = some (mgobj { x with authFid := m.authFid }) from fun W h => ⟨⟨by rw [Lib.cell_of_heap h]; rfl, Lib.frozen_of_heap h _⟩, (mg_set (m := x) (m' := { x with authFid := m.authFid }) h 4 (.int .i64 m.authFid) rfl)⟩)
 have HS := lh h0
 have HM := lh hm
 have HFN := lh (fun (W : World) (hs : RdRow W g s (a + (Oct.le 4 m.authFid.toNat).length)) (hp : W.heap[p]? = some (mgobj { x with authFid := m.authFid })) (hg : Gr2 g p w W) => (show RfSay g p s a x m ns 97 w (.returned (.tuple #[])) W from ⟨_, rfl, hs, hp, ⟨rfl, rfl, fun h => absurd h (by decide), fun _ => rfl⟩, hg⟩))
 clear hat ho hl h0 hm
 generalize mgobj ({ x with authFid := m.authFid }) = mn at *
 generalize mgobj x = mx at *
 generalize a + (Oct.le 4 m.authFid.toNat).length = aq at *
 generalize x.authFid = u0 at *
 go_enter Tryz.func33, Tryz.ntmps33
 go_wp2_with fail
 have hs := HS.out
 (with_reducible refine (HN.out _ hs).mono ?_); rintro e w2 ⟨rfl, hs2, g2⟩
 have HM2 := lh (at_grow HM.out g2 (row_ltP HM.out) (fun e => hgp e.symm))
 obtain ⟨⟨c0, f0⟩, k2⟩ := HC.out _ HM2.out
 have HK := lh k2
 have hg3 := (grown_setG (below_grownBy (Below.refl _ w2) (some p)) 4 (.int .i64 m.authFid))
 have HS3 := lh (at_grow hs2 hg3 (row_ltP hs2) hgp)
 have HG := lh (Gr2.trans (Gr2.of_g (p := p) g2) (Gr2.of_p (g := g) hg3))
 clear hs hs2 g2 k2 hg3
 go_wp2_with fail
 first | go_end0 | refine bodyPost_ret (results_none rfl _ _ _) rfl ?_
 exact HFN.out _ HS3.out HK.out HG.out
theorem rfld_99 (g p : Nat) (s : List UInt8) (a : Nat) (x m : Mg) (ns : List (List UInt8)) (w : World) (h0 : RdRow w g s a) (hm : w.heap[p]? = some (mgobj x)) (hgp : g ≠ p) (hat : At s a (Oct.le 4 m.count.toNat)) (ho : 0 ≤ m.count ∧ m.count < 4294967296) (hl : s.length ≤ 1000000) : Calls Tryz.prog 33 #[.pointer (some ⟨g, 0, none⟩), .pointer (some ⟨p, 0, none⟩), .int .u8 99] w (RfSay g p s a x m ns 99 w) := by
 have HN := lh (fun (W : World) (h : RdRow W g s a) => show Calls Tryz.prog 31 #[.pointer (some ⟨g, 0, none⟩), .int .i64 4] W fun e w' => e = .returned (.int .i64 m.count) ∧ RdRow w' g s (a + (Oct.le 4 m.count.toNat).length) ∧ W.grownBy w' (some g) from by
  have := rnumv_any g s a 4 m.count.toNat W h hat (by omega) (by omega) (by omega) (by omega) hl
  rw [show ((m.count.toNat : Nat) : Int) = m.count from by omega] at this
  rw [Oct.le_length]
  exact this)
 have HC := lh (show ∀ W : World, W.heap[p]? = some (mgobj x) → ((W.cell? ⟨p, 20, none⟩ = some (.int .i64 x.count)) ∧ W.frozen? ⟨p, 20, none⟩ = false) ∧ (W.setCell ⟨p, 20, none⟩ (.int .i64 m.count)).heap[p]? = some (mgobj { x with count := m.count }) from fun W h => ⟨⟨by rw [Lib.cell_of_heap h]; rfl, Lib.frozen_of_heap h _⟩, (mg_set (m := x) (m' := { x with count := m.count }) h 20 (.int .i64 m.count) rfl)⟩)
 have HS := lh h0
 have HM := lh hm
 have HFN := lh (fun (W : World) (hs : RdRow W g s (a + (Oct.le 4 m.count.toNat).length)) (hp : W.heap[p]? = some (mgobj { x with count := m.count })) (hg : Gr2 g p w W) => (show RfSay g p s a x m ns 99 w (.returned (.tuple #[])) W from ⟨_, rfl, hs, hp, ⟨rfl, rfl, fun h => absurd h (by decide), fun _ => rfl⟩, hg⟩))
 clear hat ho hl h0 hm
 generalize mgobj ({ x with count := m.count }) = mn at *
 generalize mgobj x = mx at *
 generalize a + (Oct.le 4 m.count.toNat).length = aq at *
 generalize x.count = u0 at *
 go_enter Tryz.func33, Tryz.ntmps33
 go_wp2_with fail
 have hs := HS.out
 (with_reducible refine (HN.out _ hs).mono ?_); rintro e w2 ⟨rfl, hs2, g2⟩
 have HM2 := lh (at_grow HM.out g2 (row_ltP HM.out) (fun e => hgp e.symm))
 obtain ⟨⟨c0, f0⟩, k2⟩ := HC.out _ HM2.out
 have HK := lh k2
 have hg3 := (grown_setG (below_grownBy (Below.refl _ w2) (some p)) 20 (.int .i64 m.count))
 have HS3 := lh (at_grow hs2 hg3 (row_ltP hs2) hgp)
 have HG := lh (Gr2.trans (Gr2.of_g (p := p) g2) (Gr2.of_p (g := g) hg3))
 clear hs hs2 g2 k2 hg3
 go_wp2_with fail
 first | go_end0 | refine bodyPost_ret (results_none rfl _ _ _) rfl ?_
 exact HFN.out _ HS3.out HK.out HG.out
theorem rfld_100 (g p : Nat) (s : List UInt8) (a : Nat) (x m : Mg) (ns : List (List UInt8)) (w : World) (h0 : RdRow w g s a) (hm : w.heap[p]? = some (mgobj x)) (hgp : g ≠ p) (hat : At s a (Oct.le 4 m.data.length ++ m.data)) (ho : m.data.length ≤ 10000) (hl : s.length ≤ 1000000) : Calls Tryz.prog 33 #[.pointer (some ⟨g, 0, none⟩), .pointer (some ⟨p, 0, none⟩), .int .u8 100] w (RfSay g p s a x m ns 100 w) := by
 have HN := lh (fun (W : World) (h : RdRow W g s a) => show Calls Tryz.prog 77 #[.pointer (some ⟨g, 0, none⟩), .int .i64 4] W fun e w' => e = .returned (.string (T m.data)) ∧ RdRow w' g s (a + (Oct.le 4 m.data.length ++ m.data).length) ∧ W.grownBy w' (some g) from rdata_any g s m.data a 4 W h hat (by omega) (by omega) (by omega) hl)
 have HC := lh (show ∀ W : World, W.heap[p]? = some (mgobj x) → ((W.cell? ⟨p, 21, none⟩ = some (.string (T x.data))) ∧ W.frozen? ⟨p, 21, none⟩ = false) ∧ (W.setCell ⟨p, 21, none⟩ (.string (T m.data))).heap[p]? = some (mgobj { x with data := m.data }) from fun W h => ⟨⟨by rw [Lib.cell_of_heap h]; rfl, Lib.frozen_of_heap h _⟩, (mg_set (m := x) (m' := { x with data := m.data }) h 21 (.string (T m.data)) rfl)⟩)
 have HS := lh h0
 have HM := lh hm
 have HFN := lh (fun (W : World) (hs : RdRow W g s (a + (Oct.le 4 m.data.length ++ m.data).length)) (hp : W.heap[p]? = some (mgobj { x with data := m.data })) (hg : Gr2 g p w W) => (show RfSay g p s a x m ns 100 w (.returned (.tuple #[])) W from ⟨_, rfl, hs, hp, ⟨rfl, rfl, fun h => absurd h (by decide), fun _ => rfl⟩, hg⟩))
 clear hat ho hl h0 hm
 generalize mgobj ({ x with data := m.data }) = mn at *
 generalize mgobj x = mx at *
 generalize a + (Oct.le 4 m.data.length ++ m.data).length = aq at *
 generalize x.data = u0 at *
 go_enter Tryz.func33, Tryz.ntmps33
 go_wp2_with fail
 have hs := HS.out
 (with_reducible refine (HN.out _ hs).mono ?_); rintro e w2 ⟨rfl, hs2, g2⟩
 have HM2 := lh (at_grow HM.out g2 (row_ltP HM.out) (fun e => hgp e.symm))
 obtain ⟨⟨c0, f0⟩, k2⟩ := HC.out _ HM2.out
 have HK := lh k2
 have hg3 := (grown_setG (below_grownBy (Below.refl _ w2) (some p)) 21 (.string (T m.data)))
 have HS3 := lh (at_grow hs2 hg3 (row_ltP hs2) hgp)
 have HG := lh (Gr2.trans (Gr2.of_g (p := p) g2) (Gr2.of_p (g := g) hg3))
 clear hs hs2 g2 k2 hg3
 go_wp2_with fail
 first | go_end0 | refine bodyPost_ret (results_none rfl _ _ _) rfl ?_
 exact HFN.out _ HS3.out HK.out HG.out
theorem rfld_102 (g p : Nat) (s : List UInt8) (a : Nat) (x m : Mg) (ns : List (List UInt8)) (w : World) (h0 : RdRow w g s a) (hm : w.heap[p]? = some (mgobj x)) (hgp : g ≠ p) (hat : At s a (Oct.le 4 m.fid.toNat)) (ho : 0 ≤ m.fid ∧ m.fid < 4294967296) (hl : s.length ≤ 1000000) : Calls Tryz.prog 33 #[.pointer (some ⟨g, 0, none⟩), .pointer (some ⟨p, 0, none⟩), .int .u8 102] w (RfSay g p s a x m ns 102 w) := by
 have HN := lh (fun (W : World) (h : RdRow W g s a) => show Calls Tryz.prog 31 #[.pointer (some ⟨g, 0, none⟩), .int .i64 4] W fun e w' => e = .returned (.int .i64 m.fid) ∧ RdRow w' g s (a + (Oct.le 4 m.fid.toNat).length) ∧ W.grownBy w' (some g) from by
  have := rnumv_any g s a 4 m.fid.toNat W h hat (by omega) (by omega) (by omega) (by omega) hl
  rw [show ((m.fid.toNat : Nat) : Int) = m.fid from by omega] at this
  rw [Oct.le_length]
  exact this)
 have HC := lh (show ∀ W : World, W.heap[p]? = some (mgobj x) → ((W.cell? ⟨p, 2, none⟩ = some (.int .i64 x.fid)) ∧ W.frozen? ⟨p, 2, none⟩ = false) ∧ (W.setCell ⟨p, 2, none⟩ (.int .i64 m.fid)).heap[p]? = some (mgobj { x with fid := m.fid }) from fun W h => ⟨⟨by rw [Lib.cell_of_heap h]; rfl, Lib.frozen_of_heap h _⟩, (mg_set (m := x) (m' := { x with fid := m.fid }) h 2 (.int .i64 m.fid) rfl)⟩)
 have HS := lh h0
 have HM := lh hm
 have HFN := lh (fun (W : World) (hs : RdRow W g s (a + (Oct.le 4 m.fid.toNat).length)) (hp : W.heap[p]? = some (mgobj { x with fid := m.fid })) (hg : Gr2 g p w W) => (show RfSay g p s a x m ns 102 w (.returned (.tuple #[])) W from ⟨_, rfl, hs, hp, ⟨rfl, rfl, fun h => absurd h (by decide), fun _ => rfl⟩, hg⟩))
 clear hat ho hl h0 hm
 generalize mgobj ({ x with fid := m.fid }) = mn at *
 generalize mgobj x = mx at *
 generalize a + (Oct.le 4 m.fid.toNat).length = aq at *
 generalize x.fid = u0 at *
 go_enter Tryz.func33, Tryz.ntmps33
 go_wp2_with fail
 have hs := HS.out
 (with_reducible refine (HN.out _ hs).mono ?_); rintro e w2 ⟨rfl, hs2, g2⟩
 have HM2 := lh (at_grow HM.out g2 (row_ltP HM.out) (fun e => hgp e.symm))
 obtain ⟨⟨c0, f0⟩, k2⟩ := HC.out _ HM2.out
 have HK := lh k2
 have hg3 := (grown_setG (below_grownBy (Below.refl _ w2) (some p)) 2 (.int .i64 m.fid))
 have HS3 := lh (at_grow hs2 hg3 (row_ltP hs2) hgp)
 have HG := lh (Gr2.trans (Gr2.of_g (p := p) g2) (Gr2.of_p (g := g) hg3))
 clear hs hs2 g2 k2 hg3
 go_wp2_with fail
 first | go_end0 | refine bodyPost_ret (results_none rfl _ _ _) rfl ?_
 exact HFN.out _ HS3.out HK.out HG.out
theorem rfld_108 (g p : Nat) (s : List UInt8) (a : Nat) (x m : Mg) (ns : List (List UInt8)) (w : World) (h0 : RdRow w g s a) (hm : w.heap[p]? = some (mgobj x)) (hgp : g ≠ p) (hat : At s a (Oct.le 1 m.lease.toNat)) (ho : 0 ≤ m.lease ∧ m.lease < 256) (hl : s.length ≤ 1000000) : Calls Tryz.prog 33 #[.pointer (some ⟨g, 0, none⟩), .pointer (some ⟨p, 0, none⟩), .int .u8 108] w (RfSay g p s a x m ns 108 w) := by
 have HN := lh (fun (W : World) (h : RdRow W g s a) => show Calls Tryz.prog 31 #[.pointer (some ⟨g, 0, none⟩), .int .i64 1] W fun e w' => e = .returned (.int .i64 m.lease) ∧ RdRow w' g s (a + (Oct.le 1 m.lease.toNat).length) ∧ W.grownBy w' (some g) from by
  have := rnumv_any g s a 1 m.lease.toNat W h hat (by omega) (by omega) (by omega) (by omega) hl
  rw [show ((m.lease.toNat : Nat) : Int) = m.lease from by omega] at this
  rw [Oct.le_length]
  exact this)
 have HC := lh (show ∀ W : World, W.heap[p]? = some (mgobj x) → ((W.cell? ⟨p, 36, none⟩ = some (.int .i64 x.lease)) ∧ W.frozen? ⟨p, 36, none⟩ = false) ∧ (W.setCell ⟨p, 36, none⟩ (.int .i64 m.lease)).heap[p]? = some (mgobj { x with lease := m.lease }) from fun W h => ⟨⟨by rw [Lib.cell_of_heap h]; rfl, Lib.frozen_of_heap h _⟩, (mg_set (m := x) (m' := { x with lease := m.lease }) h 36 (.int .i64 m.lease) rfl)⟩)
 have HS := lh h0
 have HM := lh hm
 have HFN := lh (fun (W : World) (hs : RdRow W g s (a + (Oct.le 1 m.lease.toNat).length)) (hp : W.heap[p]? = some (mgobj { x with lease := m.lease })) (hg : Gr2 g p w W) => (show RfSay g p s a x m ns 108 w (.returned (.tuple #[])) W from ⟨_, rfl, hs, hp, ⟨rfl, rfl, fun h => absurd h (by decide), fun _ => rfl⟩, hg⟩))
 clear hat ho hl h0 hm
 generalize mgobj ({ x with lease := m.lease }) = mn at *
 generalize mgobj x = mx at *
 generalize a + (Oct.le 1 m.lease.toNat).length = aq at *
 generalize x.lease = u0 at *
 go_enter Tryz.func33, Tryz.ntmps33
 go_wp2_with fail
 have hs := HS.out
 (with_reducible refine (HN.out _ hs).mono ?_); rintro e w2 ⟨rfl, hs2, g2⟩
 have HM2 := lh (at_grow HM.out g2 (row_ltP HM.out) (fun e => hgp e.symm))
 obtain ⟨⟨c0, f0⟩, k2⟩ := HC.out _ HM2.out
 have HK := lh k2
 have hg3 := (grown_setG (below_grownBy (Below.refl _ w2) (some p)) 36 (.int .i64 m.lease))
 have HS3 := lh (at_grow hs2 hg3 (row_ltP hs2) hgp)
 have HG := lh (Gr2.trans (Gr2.of_g (p := p) g2) (Gr2.of_p (g := g) hg3))
 clear hs hs2 g2 k2 hg3
 go_wp2_with fail
 first | go_end0 | refine bodyPost_ret (results_none rfl _ _ _) rfl ?_
 exact HFN.out _ HS3.out HK.out HG.out
theorem rfld_109 (g p : Nat) (s : List UInt8) (a : Nat) (x m : Mg) (ns : List (List UInt8)) (w : World) (h0 : RdRow w g s a) (hm : w.heap[p]? = some (mgobj x)) (hgp : g ≠ p) (hat : At s a (Oct.le 4 m.msize.toNat)) (ho : 0 ≤ m.msize ∧ m.msize < 4294967296) (hl : s.length ≤ 1000000) : Calls Tryz.prog 33 #[.pointer (some ⟨g, 0, none⟩), .pointer (some ⟨p, 0, none⟩), .int .u8 109] w (RfSay g p s a x m ns 109 w) := by
 have HN := lh (fun (W : World) (h : RdRow W g s a) => show Calls Tryz.prog 31 #[.pointer (some ⟨g, 0, none⟩), .int .i64 4] W fun e w' => e = .returned (.int .i64 m.msize) ∧ RdRow w' g s (a + (Oct.le 4 m.msize.toNat).length) ∧ W.grownBy w' (some g) from by
  have := rnumv_any g s a 4 m.msize.toNat W h hat (by omega) (by omega) (by omega) (by omega) hl
  rw [show ((m.msize.toNat : Nat) : Int) = m.msize from by omega] at this
  rw [Oct.le_length]
  exact this)
 have HC := lh (show ∀ W : World, W.heap[p]? = some (mgobj x) → ((W.cell? ⟨p, 6, none⟩ = some (.int .i64 x.msize)) ∧ W.frozen? ⟨p, 6, none⟩ = false) ∧ (W.setCell ⟨p, 6, none⟩ (.int .i64 m.msize)).heap[p]? = some (mgobj { x with msize := m.msize }) from fun W h => ⟨⟨by rw [Lib.cell_of_heap h]; rfl, Lib.frozen_of_heap h _⟩, (mg_set (m := x) (m' := { x with msize := m.msize }) h 6 (.int .i64 m.msize) rfl)⟩)
 have HS := lh h0
 have HM := lh hm
 have HFN := lh (fun (W : World) (hs : RdRow W g s (a + (Oct.le 4 m.msize.toNat).length)) (hp : W.heap[p]? = some (mgobj { x with msize := m.msize })) (hg : Gr2 g p w W) => (show RfSay g p s a x m ns 109 w (.returned (.tuple #[])) W from ⟨_, rfl, hs, hp, ⟨rfl, rfl, fun h => absurd h (by decide), fun _ => rfl⟩, hg⟩))
 clear hat ho hl h0 hm
 generalize mgobj ({ x with msize := m.msize }) = mn at *
 generalize mgobj x = mx at *
 generalize a + (Oct.le 4 m.msize.toNat).length = aq at *
 generalize x.msize = u0 at *
 go_enter Tryz.func33, Tryz.ntmps33
 go_wp2_with fail
 have hs := HS.out
 (with_reducible refine (HN.out _ hs).mono ?_); rintro e w2 ⟨rfl, hs2, g2⟩
 have HM2 := lh (at_grow HM.out g2 (row_ltP HM.out) (fun e => hgp e.symm))
 obtain ⟨⟨c0, f0⟩, k2⟩ := HC.out _ HM2.out
 have HK := lh k2
 have hg3 := (grown_setG (below_grownBy (Below.refl _ w2) (some p)) 6 (.int .i64 m.msize))
 have HS3 := lh (at_grow hs2 hg3 (row_ltP hs2) hgp)
 have HG := lh (Gr2.trans (Gr2.of_g (p := p) g2) (Gr2.of_p (g := g) hg3))
 clear hs hs2 g2 k2 hg3
 go_wp2_with fail
 first | go_end0 | refine bodyPost_ret (results_none rfl _ _ _) rfl ?_
 exact HFN.out _ HS3.out HK.out HG.out
theorem rfld_110 (g p : Nat) (s : List UInt8) (a : Nat) (x m : Mg) (ns : List (List UInt8)) (w : World) (h0 : RdRow w g s a) (hm : w.heap[p]? = some (mgobj x)) (hgp : g ≠ p) (hat : At s a (Oct.le 4 m.newFid.toNat)) (ho : 0 ≤ m.newFid ∧ m.newFid < 4294967296) (hl : s.length ≤ 1000000) : Calls Tryz.prog 33 #[.pointer (some ⟨g, 0, none⟩), .pointer (some ⟨p, 0, none⟩), .int .u8 110] w (RfSay g p s a x m ns 110 w) := by
 have HN := lh (fun (W : World) (h : RdRow W g s a) => show Calls Tryz.prog 31 #[.pointer (some ⟨g, 0, none⟩), .int .i64 4] W fun e w' => e = .returned (.int .i64 m.newFid) ∧ RdRow w' g s (a + (Oct.le 4 m.newFid.toNat).length) ∧ W.grownBy w' (some g) from by
  have := rnumv_any g s a 4 m.newFid.toNat W h hat (by omega) (by omega) (by omega) (by omega) hl
  rw [show ((m.newFid.toNat : Nat) : Int) = m.newFid from by omega] at this
  rw [Oct.le_length]
  exact this)
 have HC := lh (show ∀ W : World, W.heap[p]? = some (mgobj x) → ((W.cell? ⟨p, 3, none⟩ = some (.int .i64 x.newFid)) ∧ W.frozen? ⟨p, 3, none⟩ = false) ∧ (W.setCell ⟨p, 3, none⟩ (.int .i64 m.newFid)).heap[p]? = some (mgobj { x with newFid := m.newFid }) from fun W h => ⟨⟨by rw [Lib.cell_of_heap h]; rfl, Lib.frozen_of_heap h _⟩, (mg_set (m := x) (m' := { x with newFid := m.newFid }) h 3 (.int .i64 m.newFid) rfl)⟩)
 have HS := lh h0
 have HM := lh hm
 have HFN := lh (fun (W : World) (hs : RdRow W g s (a + (Oct.le 4 m.newFid.toNat).length)) (hp : W.heap[p]? = some (mgobj { x with newFid := m.newFid })) (hg : Gr2 g p w W) => (show RfSay g p s a x m ns 110 w (.returned (.tuple #[])) W from ⟨_, rfl, hs, hp, ⟨rfl, rfl, fun h => absurd h (by decide), fun _ => rfl⟩, hg⟩))
 clear hat ho hl h0 hm
 generalize mgobj ({ x with newFid := m.newFid }) = mn at *
 generalize mgobj x = mx at *
 generalize a + (Oct.le 4 m.newFid.toNat).length = aq at *
 generalize x.newFid = u0 at *
 go_enter Tryz.func33, Tryz.ntmps33
 go_wp2_with fail
 have hs := HS.out
 (with_reducible refine (HN.out _ hs).mono ?_); rintro e w2 ⟨rfl, hs2, g2⟩
 have HM2 := lh (at_grow HM.out g2 (row_ltP HM.out) (fun e => hgp e.symm))
 obtain ⟨⟨c0, f0⟩, k2⟩ := HC.out _ HM2.out
 have HK := lh k2
 have hg3 := (grown_setG (below_grownBy (Below.refl _ w2) (some p)) 3 (.int .i64 m.newFid))
 have HS3 := lh (at_grow hs2 hg3 (row_ltP hs2) hgp)
 have HG := lh (Gr2.trans (Gr2.of_g (p := p) g2) (Gr2.of_p (g := g) hg3))
 clear hs hs2 g2 k2 hg3
 go_wp2_with fail
 first | go_end0 | refine bodyPost_ret (results_none rfl _ _ _) rfl ?_
 exact HFN.out _ HS3.out HK.out HG.out
theorem rfld_112 (g p : Nat) (s : List UInt8) (a : Nat) (x m : Mg) (ns : List (List UInt8)) (w : World) (h0 : RdRow w g s a) (hm : w.heap[p]? = some (mgobj x)) (hgp : g ≠ p) (hat : At s a (Oct.le 4 m.perm.toNat)) (ho : 0 ≤ m.perm ∧ m.perm < 4294967296) (hl : s.length ≤ 1000000) : Calls Tryz.prog 33 #[.pointer (some ⟨g, 0, none⟩), .pointer (some ⟨p, 0, none⟩), .int .u8 112] w (RfSay g p s a x m ns 112 w) := by
 have HN := lh (fun (W : World) (h : RdRow W g s a) => show Calls Tryz.prog 31 #[.pointer (some ⟨g, 0, none⟩), .int .i64 4] W fun e w' => e = .returned (.int .i64 m.perm) ∧ RdRow w' g s (a + (Oct.le 4 m.perm.toNat).length) ∧ W.grownBy w' (some g) from by
  have := rnumv_any g s a 4 m.perm.toNat W h hat (by omega) (by omega) (by omega) (by omega) hl
  rw [show ((m.perm.toNat : Nat) : Int) = m.perm from by omega] at this
  rw [Oct.le_length]
  exact this)
 have HC := lh (show ∀ W : World, W.heap[p]? = some (mgobj x) → ((W.cell? ⟨p, 17, none⟩ = some (.int .i64 x.perm)) ∧ W.frozen? ⟨p, 17, none⟩ = false) ∧ (W.setCell ⟨p, 17, none⟩ (.int .i64 m.perm)).heap[p]? = some (mgobj { x with perm := m.perm }) from fun W h => ⟨⟨by rw [Lib.cell_of_heap h]; rfl, Lib.frozen_of_heap h _⟩, (mg_set (m := x) (m' := { x with perm := m.perm }) h 17 (.int .i64 m.perm) rfl)⟩)
 have HS := lh h0
 have HM := lh hm
 have HFN := lh (fun (W : World) (hs : RdRow W g s (a + (Oct.le 4 m.perm.toNat).length)) (hp : W.heap[p]? = some (mgobj { x with perm := m.perm })) (hg : Gr2 g p w W) => (show RfSay g p s a x m ns 112 w (.returned (.tuple #[])) W from ⟨_, rfl, hs, hp, ⟨rfl, rfl, fun h => absurd h (by decide), fun _ => rfl⟩, hg⟩))
 clear hat ho hl h0 hm
 generalize mgobj ({ x with perm := m.perm }) = mn at *
 generalize mgobj x = mx at *
 generalize a + (Oct.le 4 m.perm.toNat).length = aq at *
 generalize x.perm = u0 at *
 go_enter Tryz.func33, Tryz.ntmps33
 go_wp2_with fail
 have hs := HS.out
 (with_reducible refine (HN.out _ hs).mono ?_); rintro e w2 ⟨rfl, hs2, g2⟩
 have HM2 := lh (at_grow HM.out g2 (row_ltP HM.out) (fun e => hgp e.symm))
 obtain ⟨⟨c0, f0⟩, k2⟩ := HC.out _ HM2.out
 have HK := lh k2
 have hg3 := (grown_setG (below_grownBy (Below.refl _ w2) (some p)) 17 (.int .i64 m.perm))
 have HS3 := lh (at_grow hs2 hg3 (row_ltP hs2) hgp)
 have HG := lh (Gr2.trans (Gr2.of_g (p := p) g2) (Gr2.of_p (g := g) hg3))
 clear hs hs2 g2 k2 hg3
 go_wp2_with fail
 first | go_end0 | refine bodyPost_ret (results_none rfl _ _ _) rfl ?_
 exact HFN.out _ HS3.out HK.out HG.out
theorem rfld_115 (g p : Nat) (s : List UInt8) (a : Nat) (x m : Mg) (ns : List (List UInt8)) (w : World) (h0 : RdRow w g s a) (hm : w.heap[p]? = some (mgobj x)) (hgp : g ≠ p) (hat : At s a (txt m.session)) (ho : m.session.length ≤ 10000) (hl : s.length ≤ 1000000) : Calls Tryz.prog 33 #[.pointer (some ⟨g, 0, none⟩), .pointer (some ⟨p, 0, none⟩), .int .u8 115] w (RfSay g p s a x m ns 115 w) := by
 have HN := lh (fun (W : World) (h : RdRow W g s a) => rtext_any g s m.session a W h hat (by omega) hl)
 have HC := lh (show ∀ W : World, W.heap[p]? = some (mgobj x) → ((W.cell? ⟨p, 38, none⟩ = some (.string (T x.session))) ∧ W.frozen? ⟨p, 38, none⟩ = false) ∧ (W.setCell ⟨p, 38, none⟩ (.string (T m.session))).heap[p]? = some (mgobj { x with session := m.session }) from fun W h => ⟨⟨by rw [Lib.cell_of_heap h]; rfl, Lib.frozen_of_heap h _⟩, (mg_set (m := x) (m' := { x with session := m.session }) h 38 (.string (T m.session)) rfl)⟩)
 have HS := lh h0
 have HM := lh hm
 have HFN := lh (fun (W : World) (hs : RdRow W g s (a + (txt m.session).length)) (hp : W.heap[p]? = some (mgobj { x with session := m.session })) (hg : Gr2 g p w W) => (show RfSay g p s a x m ns 115 w (.returned (.tuple #[])) W from ⟨_, rfl, hs, hp, ⟨rfl, rfl, fun h => absurd h (by decide), fun _ => rfl⟩, hg⟩))
 clear hat ho hl h0 hm
 generalize mgobj ({ x with session := m.session }) = mn at *
 generalize mgobj x = mx at *
 generalize a + (txt m.session).length = aq at *
 generalize x.session = u0 at *
 go_enter Tryz.func33, Tryz.ntmps33
 go_wp2_with fail
 have hs := HS.out
 (with_reducible refine (HN.out _ hs).mono ?_); rintro e w2 ⟨rfl, hs2, g2⟩
 have HM2 := lh (at_grow HM.out g2 (row_ltP HM.out) (fun e => hgp e.symm))
 obtain ⟨⟨c0, f0⟩, k2⟩ := HC.out _ HM2.out
 have HK := lh k2
 have hg3 := (grown_setG (below_grownBy (Below.refl _ w2) (some p)) 38 (.string (T m.session)))
 have HS3 := lh (at_grow hs2 hg3 (row_ltP hs2) hgp)
 have HG := lh (Gr2.trans (Gr2.of_g (p := p) g2) (Gr2.of_p (g := g) hg3))
 clear hs hs2 g2 k2 hg3
 go_wp2_with fail
 first | go_end0 | refine bodyPost_ret (results_none rfl _ _ _) rfl ?_
 exact HFN.out _ HS3.out HK.out HG.out
theorem rfld_116 (g p : Nat) (s : List UInt8) (a : Nat) (x m : Mg) (ns : List (List UInt8)) (w : World) (h0 : RdRow w g s a) (hm : w.heap[p]? = some (mgobj x)) (hgp : g ≠ p) (hat : At s a (Oct.le 4 m.term.toNat)) (ho : 0 ≤ m.term ∧ m.term < 4294967296) (hl : s.length ≤ 1000000) : Calls Tryz.prog 33 #[.pointer (some ⟨g, 0, none⟩), .pointer (some ⟨p, 0, none⟩), .int .u8 116] w (RfSay g p s a x m ns 116 w) := by
 have HN := lh (fun (W : World) (h : RdRow W g s a) => show Calls Tryz.prog 31 #[.pointer (some ⟨g, 0, none⟩), .int .i64 4] W fun e w' => e = .returned (.int .i64 m.term) ∧ RdRow w' g s (a + (Oct.le 4 m.term.toNat).length) ∧ W.grownBy w' (some g) from by
  have := rnumv_any g s a 4 m.term.toNat W h hat (by omega) (by omega) (by omega) (by omega) hl
  rw [show ((m.term.toNat : Nat) : Int) = m.term from by omega] at this
  rw [Oct.le_length]
  exact this)
 have HC := lh (show ∀ W : World, W.heap[p]? = some (mgobj x) → ((W.cell? ⟨p, 37, none⟩ = some (.int .i64 x.term)) ∧ W.frozen? ⟨p, 37, none⟩ = false) ∧ (W.setCell ⟨p, 37, none⟩ (.int .i64 m.term)).heap[p]? = some (mgobj { x with term := m.term }) from fun W h => ⟨⟨by rw [Lib.cell_of_heap h]; rfl, Lib.frozen_of_heap h _⟩, (mg_set (m := x) (m' := { x with term := m.term }) h 37 (.int .i64 m.term) rfl)⟩)
 have HS := lh h0
 have HM := lh hm
 have HFN := lh (fun (W : World) (hs : RdRow W g s (a + (Oct.le 4 m.term.toNat).length)) (hp : W.heap[p]? = some (mgobj { x with term := m.term })) (hg : Gr2 g p w W) => (show RfSay g p s a x m ns 116 w (.returned (.tuple #[])) W from ⟨_, rfl, hs, hp, ⟨rfl, rfl, fun h => absurd h (by decide), fun _ => rfl⟩, hg⟩))
 clear hat ho hl h0 hm
 generalize mgobj ({ x with term := m.term }) = mn at *
 generalize mgobj x = mx at *
 generalize a + (Oct.le 4 m.term.toNat).length = aq at *
 generalize x.term = u0 at *
 go_enter Tryz.func33, Tryz.ntmps33
 go_wp2_with fail
 have hs := HS.out
 (with_reducible refine (HN.out _ hs).mono ?_); rintro e w2 ⟨rfl, hs2, g2⟩
 have HM2 := lh (at_grow HM.out g2 (row_ltP HM.out) (fun e => hgp e.symm))
 obtain ⟨⟨c0, f0⟩, k2⟩ := HC.out _ HM2.out
 have HK := lh k2
 have hg3 := (grown_setG (below_grownBy (Below.refl _ w2) (some p)) 37 (.int .i64 m.term))
 have HS3 := lh (at_grow hs2 hg3 (row_ltP hs2) hgp)
 have HG := lh (Gr2.trans (Gr2.of_g (p := p) g2) (Gr2.of_p (g := g) hg3))
 clear hs hs2 g2 k2 hg3
 go_wp2_with fail
 first | go_end0 | refine bodyPost_ret (results_none rfl _ _ _) rfl ?_
 exact HFN.out _ HS3.out HK.out HG.out
theorem rfld_117 (g p : Nat) (s : List UInt8) (a : Nat) (x m : Mg) (ns : List (List UInt8)) (w : World) (h0 : RdRow w g s a) (hm : w.heap[p]? = some (mgobj x)) (hgp : g ≠ p) (hat : At s a (txt m.user)) (ho : m.user.length ≤ 10000) (hl : s.length ≤ 1000000) : Calls Tryz.prog 33 #[.pointer (some ⟨g, 0, none⟩), .pointer (some ⟨p, 0, none⟩), .int .u8 117] w (RfSay g p s a x m ns 117 w) := by
 have HN := lh (fun (W : World) (h : RdRow W g s a) => rtext_any g s m.user a W h hat (by omega) hl)
 have HC := lh (show ∀ W : World, W.heap[p]? = some (mgobj x) → ((W.cell? ⟨p, 8, none⟩ = some (.string (T x.user))) ∧ W.frozen? ⟨p, 8, none⟩ = false) ∧ (W.setCell ⟨p, 8, none⟩ (.string (T m.user))).heap[p]? = some (mgobj { x with user := m.user }) from fun W h => ⟨⟨by rw [Lib.cell_of_heap h]; rfl, Lib.frozen_of_heap h _⟩, (mg_set (m := x) (m' := { x with user := m.user }) h 8 (.string (T m.user)) rfl)⟩)
 have HS := lh h0
 have HM := lh hm
 have HFN := lh (fun (W : World) (hs : RdRow W g s (a + (txt m.user).length)) (hp : W.heap[p]? = some (mgobj { x with user := m.user })) (hg : Gr2 g p w W) => (show RfSay g p s a x m ns 117 w (.returned (.tuple #[])) W from ⟨_, rfl, hs, hp, ⟨rfl, rfl, fun h => absurd h (by decide), fun _ => rfl⟩, hg⟩))
 clear hat ho hl h0 hm
 generalize mgobj ({ x with user := m.user }) = mn at *
 generalize mgobj x = mx at *
 generalize a + (txt m.user).length = aq at *
 generalize x.user = u0 at *
 go_enter Tryz.func33, Tryz.ntmps33
 go_wp2_with fail
 have hs := HS.out
 (with_reducible refine (HN.out _ hs).mono ?_); rintro e w2 ⟨rfl, hs2, g2⟩
 have HM2 := lh (at_grow HM.out g2 (row_ltP HM.out) (fun e => hgp e.symm))
 obtain ⟨⟨c0, f0⟩, k2⟩ := HC.out _ HM2.out
 have HK := lh k2
 have hg3 := (grown_setG (below_grownBy (Below.refl _ w2) (some p)) 8 (.string (T m.user)))
 have HS3 := lh (at_grow hs2 hg3 (row_ltP hs2) hgp)
 have HG := lh (Gr2.trans (Gr2.of_g (p := p) g2) (Gr2.of_p (g := g) hg3))
 clear hs hs2 g2 k2 hg3
 go_wp2_with fail
 first | go_end0 | refine bodyPost_ret (results_none rfl _ _ _) rfl ?_
 exact HFN.out _ HS3.out HK.out HG.out
theorem rfld_118 (g p : Nat) (s : List UInt8) (a : Nat) (x m : Mg) (ns : List (List UInt8)) (w : World) (h0 : RdRow w g s a) (hm : w.heap[p]? = some (mgobj x)) (hgp : g ≠ p) (hat : At s a (txt m.version)) (ho : m.version.length ≤ 10000) (hl : s.length ≤ 1000000) : Calls Tryz.prog 33 #[.pointer (some ⟨g, 0, none⟩), .pointer (some ⟨p, 0, none⟩), .int .u8 118] w (RfSay g p s a x m ns 118 w) := by
 have HN := lh (fun (W : World) (h : RdRow W g s a) => rtext_any g s m.version a W h hat (by omega) hl)
 have HC := lh (show ∀ W : World, W.heap[p]? = some (mgobj x) → ((W.cell? ⟨p, 7, none⟩ = some (.string (T x.version))) ∧ W.frozen? ⟨p, 7, none⟩ = false) ∧ (W.setCell ⟨p, 7, none⟩ (.string (T m.version))).heap[p]? = some (mgobj { x with version := m.version }) from fun W h => ⟨⟨by rw [Lib.cell_of_heap h]; rfl, Lib.frozen_of_heap h _⟩, (mg_set (m := x) (m' := { x with version := m.version }) h 7 (.string (T m.version)) rfl)⟩)
 have HS := lh h0
 have HM := lh hm
 have HFN := lh (fun (W : World) (hs : RdRow W g s (a + (txt m.version).length)) (hp : W.heap[p]? = some (mgobj { x with version := m.version })) (hg : Gr2 g p w W) => (show RfSay g p s a x m ns 118 w (.returned (.tuple #[])) W from ⟨_, rfl, hs, hp, ⟨rfl, rfl, fun h => absurd h (by decide), fun _ => rfl⟩, hg⟩))
 clear hat ho hl h0 hm
 generalize mgobj ({ x with version := m.version }) = mn at *
 generalize mgobj x = mx at *
 generalize a + (txt m.version).length = aq at *
 generalize x.version = u0 at *
 go_enter Tryz.func33, Tryz.ntmps33
 go_wp2_with fail
 have hs := HS.out
 (with_reducible refine (HN.out _ hs).mono ?_); rintro e w2 ⟨rfl, hs2, g2⟩
 have HM2 := lh (at_grow HM.out g2 (row_ltP HM.out) (fun e => hgp e.symm))
 obtain ⟨⟨c0, f0⟩, k2⟩ := HC.out _ HM2.out
 have HK := lh k2
 have hg3 := (grown_setG (below_grownBy (Below.refl _ w2) (some p)) 7 (.string (T m.version)))
 have HS3 := lh (at_grow hs2 hg3 (row_ltP hs2) hgp)
 have HG := lh (Gr2.trans (Gr2.of_g (p := p) g2) (Gr2.of_p (g := g) hg3))
 clear hs hs2 g2 k2 hg3
 go_wp2_with fail
 first | go_end0 | refine bodyPost_ret (results_none rfl _ _ _) rfl ?_
 exact HFN.out _ HS3.out HK.out HG.out
theorem rfld_119 (g p : Nat) (s : List UInt8) (a : Nat) (x m : Mg) (ns : List (List UInt8)) (w : World) (h0 : RdRow w g s a) (hm : w.heap[p]? = some (mgobj x)) (hgp : g ≠ p) (hx : x.ok) (hat : At s a (Oct.le 2 ns.length ++ ns.flatMap txt)) (ho : ns.length ≤ 16 ∧ ∀ s ∈ ns, s.length ≤ 1000) (hl : s.length ≤ 1000000) : Calls Tryz.prog 33 #[.pointer (some ⟨g, 0, none⟩), .pointer (some ⟨p, 0, none⟩), .int .u8 119] w (RfSay g p s a x m ns 119 w) := by
 have HN := lh (fun (W : World) (h : RdRow W g s a) => rdnames_any g s a ns W h hat ho hl)
 have HC := lh (show ∀ (W : World) (v : Value), W.heap[p]? = some (mgobj x) → (W.cell? ⟨p, 10, none⟩ = some x.names ∧ W.frozen? ⟨p, 10, none⟩ = false) ∧ (W.setCell ⟨p, 10, none⟩ v).heap[p]? = some (mgobj { x with names := v }) from fun W v h => ⟨⟨by rw [Lib.cell_of_heap h]; rfl, Lib.frozen_of_heap h _⟩, mg_set (m := x) (m' := { x with names := v }) h 10 v rfl⟩)
 have HS := lh h0
 have HM := lh hm
 have HFN := lh (fun (W : World) (v : Value) (hs : RdRow W g s (a + (Oct.le 2 ns.length ++ ns.flatMap txt).length)) (hp : W.heap[p]? = some (mgobj { x with names := v })) (ht : Txs W v ns ∧ ∀ ad n k, v = .slice (some ad) n k → w.heap.size ≤ ad.block) (hg : Gr2 g p w W) => (show RfSay g p s a x m ns 119 w (.returned (.tuple #[])) W from ⟨_, rfl, hs, hp, ⟨rfl, rfl, fun _ => ht, fun h => absurd rfl h⟩, hg⟩))
 clear hat ho hl h0 hm
 generalize mgobj x = mx at *
 obtain ⟨⟨an, nn, cn, hn⟩, _⟩ := hx
 rw [hn] at HC
 clear hn
 go_enter Tryz.func33, Tryz.ntmps33
 go_wp2_with fail
 have hs := HS.out
 (with_reducible refine (HN.out _ hs).mono ?_); rintro e w2 ⟨v, rfl, ht, hs2, g2⟩
 have HT := lh ht
 obtain ⟨av, nv, cv, rfl⟩ := ht.1.form
 have HM2 := lh (at_grow HM.out g2 (row_ltP HM.out) (fun e => hgp e.symm))
 obtain ⟨⟨c0, f0⟩, k2⟩ := HC.out _ (.slice av nv cv) HM2.out
 have HK := lh k2
 have hg3 := (grown_setG (below_grownBy (Below.refl _ w2) (some p)) 10 (.slice av nv cv))
 have HS3 := lh (at_grow hs2 hg3 (row_ltP hs2) hgp)
 have HT3 := lh (HT.out.1.gr2 (g := g) (p := p) (fun ad n k e => by have := HT.out.2 ad n k e; have h1 := row_ltP hs; have h2 := row_ltP HM.out; omega) (Gr2.of_p hg3))
 have HG := lh (Gr2.trans (Gr2.of_g (p := p) g2) (Gr2.of_p (g := g) hg3))
 clear hs hs2 g2 k2 hg3 ht
 go_wp2_with fail
 first | go_end0 | refine bodyPost_ret (results_none rfl _ _ _) rfl ?_
 exact HFN.out _ _ HS3.out HK.out ⟨HT3.out, HT.out.2⟩ HG.out
theorem rfld_120 (g p : Nat) (s : List UInt8) (a : Nat) (x m : Mg) (ns : List (List UInt8)) (w : World) (h0 : RdRow w g s a) (hm : w.heap[p]? = some (mgobj x)) (hgp : g ≠ p) (hat : At s a (txt m.attach)) (ho : m.attach.length ≤ 10000) (hl : s.length ≤ 1000000) : Calls Tryz.prog 33 #[.pointer (some ⟨g, 0, none⟩), .pointer (some ⟨p, 0, none⟩), .int .u8 120] w (RfSay g p s a x m ns 120 w) := by
 have HN := lh (fun (W : World) (h : RdRow W g s a) => rtext_any g s m.attach a W h hat (by omega) hl)
 have HC := lh (show ∀ W : World, W.heap[p]? = some (mgobj x) → ((W.cell? ⟨p, 9, none⟩ = some (.string (T x.attach))) ∧ W.frozen? ⟨p, 9, none⟩ = false) ∧ (W.setCell ⟨p, 9, none⟩ (.string (T m.attach))).heap[p]? = some (mgobj { x with attach := m.attach }) from fun W h => ⟨⟨by rw [Lib.cell_of_heap h]; rfl, Lib.frozen_of_heap h _⟩, (mg_set (m := x) (m' := { x with attach := m.attach }) h 9 (.string (T m.attach)) rfl)⟩)
 have HS := lh h0
 have HM := lh hm
 have HFN := lh (fun (W : World) (hs : RdRow W g s (a + (txt m.attach).length)) (hp : W.heap[p]? = some (mgobj { x with attach := m.attach })) (hg : Gr2 g p w W) => (show RfSay g p s a x m ns 120 w (.returned (.tuple #[])) W from ⟨_, rfl, hs, hp, ⟨rfl, rfl, fun h => absurd h (by decide), fun _ => rfl⟩, hg⟩))
 clear hat ho hl h0 hm
 generalize mgobj ({ x with attach := m.attach }) = mn at *
 generalize mgobj x = mx at *
 generalize a + (txt m.attach).length = aq at *
 generalize x.attach = u0 at *
 go_enter Tryz.func33, Tryz.ntmps33
 go_wp2_with fail
 have hs := HS.out
 (with_reducible refine (HN.out _ hs).mono ?_); rintro e w2 ⟨rfl, hs2, g2⟩
 have HM2 := lh (at_grow HM.out g2 (row_ltP HM.out) (fun e => hgp e.symm))
 obtain ⟨⟨c0, f0⟩, k2⟩ := HC.out _ HM2.out
 have HK := lh k2
 have hg3 := (grown_setG (below_grownBy (Below.refl _ w2) (some p)) 9 (.string (T m.attach)))
 have HS3 := lh (at_grow hs2 hg3 (row_ltP hs2) hgp)
 have HG := lh (Gr2.trans (Gr2.of_g (p := p) g2) (Gr2.of_p (g := g) hg3))
 clear hs hs2 g2 k2 hg3
 go_wp2_with fail
 first | go_end0 | refine bodyPost_ret (results_none rfl _ _ _) rfl ?_
 exact HFN.out _ HS3.out HK.out HG.out
/-- Any letter. -/
theorem rfld_any (c : UInt8) (hc : IsLet c) (g p : Nat) (s : List UInt8) (a : Nat) (x m : Mg) (ns : List (List UInt8)) (w : World) (h0 : RdRow w g s a) (hm : w.heap[p]? = some (mgobj x)) (hgp : g ≠ p) (hx : x.ok) (hat : At s a (enc m ns c)) (ho : LetOk m ns c) (hl : s.length ≤ 1000000) :
  Calls Tryz.prog 33 #[.pointer (some ⟨g, 0, none⟩), .pointer (some ⟨p, 0, none⟩), .int .u8 (c.toNat : Int)] w (RfSay g p s a x m ns c w) := by
 rcases hc with rfl | rfl | rfl | rfl | rfl | rfl | rfl | rfl | rfl | rfl | rfl | rfl | rfl | rfl | rfl | rfl | rfl | rfl
 ·exact rfld_77 g p s a x m ns w h0 hm hgp hat ho hl
 ·exact rfld_78 g p s a x m ns w h0 hm hgp hat ho hl
 ·exact rfld_79 g p s a x m ns w h0 hm hgp hat ho hl
 ·exact rfld_83 g p s a x m ns w h0 hm hgp hat ho hl
 ·exact rfld_97 g p s a x m ns w h0 hm hgp hat ho hl
 ·exact rfld_99 g p s a x m ns w h0 hm hgp hat ho hl
 ·exact rfld_100 g p s a x m ns w h0 hm hgp hat ho hl
 ·exact rfld_102 g p s a x m ns w h0 hm hgp hat ho hl
 ·exact rfld_108 g p s a x m ns w h0 hm hgp hat ho hl
 ·exact rfld_109 g p s a x m ns w h0 hm hgp hat ho hl
 ·exact rfld_110 g p s a x m ns w h0 hm hgp hat ho hl
 ·exact rfld_112 g p s a x m ns w h0 hm hgp hat ho hl
 ·exact rfld_115 g p s a x m ns w h0 hm hgp hat ho hl
 ·exact rfld_116 g p s a x m ns w h0 hm hgp hat ho hl
 ·exact rfld_117 g p s a x m ns w h0 hm hgp hat ho hl
 ·exact rfld_118 g p s a x m ns w h0 hm hgp hat ho hl
 ·exact rfld_119 g p s a x m ns w h0 hm hgp hx hat ho hl
 ·exact rfld_120 g p s a x m ns w h0 hm hgp hat ho hl
end Go.Proofs.YtfibaopngpfmjaaGreatDoor
