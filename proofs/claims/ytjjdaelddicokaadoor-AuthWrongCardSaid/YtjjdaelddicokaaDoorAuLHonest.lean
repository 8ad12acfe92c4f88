/- The law AuthHonest returns true. Conditions: the 64 constants in the variable. -/
import Derived.Test.YtjjdaelddicokaaDoorAuAwake
import Derived.Test.YtjjdaelddicokaaDoorAuHonest
import Derived.Test.YtjjdaelddicokaaDoorAuRef3
import Derived.Deep.RegionHeldLaw
import Derived.Deep.DeepCutAuto
import Derived.Deep.CutBlock
set_option linter.unusedVariables false
set_option linter.unusedSimpArgs false
namespace Go.Proofs.YtjjdaelddicokaaDoor
open Go.RowKit
open Au (Att Cnv)
theorem sd1 {W W' : World} {b0 o0 : Nat} {u0 : Value} (p0 : W.cell? ⟨b0, o0, none⟩ = some u0) (h : Below W.heap.size W W') : W'.cell? ⟨b0, o0, none⟩ = some u0 ∧ Below W.heap.size W W' := ⟨by rw [h.cell (p := ⟨b0, o0, none⟩) (block_lt_of_cell p0)]; exact p0, h⟩
theorem sd3 {W W' : World} {b0 o0 b1 o1 b2 o2 : Nat} {u0 u1 u2 : Value} (p0 : W.cell? ⟨b0, o0, none⟩ = some u0) (p1 : W.cell? ⟨b1, o1, none⟩ = some u1) (p2 : W.cell? ⟨b2, o2, none⟩ = some u2) (h : Below W.heap.size W W') : W'.cell? ⟨b0, o0, none⟩ = some u0 ∧ W'.cell? ⟨b1, o1, none⟩ = some u1 ∧ W'.cell? ⟨b2, o2, none⟩ = some u2 ∧ Below W.heap.size W W' := ⟨by rw [h.cell (p := ⟨b0, o0, none⟩) (block_lt_of_cell p0)]; exact p0, by rw [h.cell (p := ⟨b1, o1, none⟩) (block_lt_of_cell p1)]; exact p1, by rw [h.cell (p := ⟨b2, o2, none⟩) (block_lt_of_cell p2)]; exact p2, h⟩
theorem below_set10 {w W : World} {g : Nat} (h : Below w.heap.size w W) (hg : w.heap.size ≤ g) (a0 a1 a2 a3 a4 a5 a6 a7 a8 a9 : Value) : Below w.heap.size w ((((((((((W.setCell ⟨g, 0, none⟩ a0).setCell ⟨g, 1, none⟩ a1).setCell ⟨g, 2, none⟩ a2).setCell ⟨g, 3, none⟩ a3).setCell ⟨g, 4, none⟩ a4).setCell ⟨g, 5, none⟩ a5).setCell ⟨g, 6, none⟩ a6).setCell ⟨g, 7, none⟩ a7).setCell ⟨g, 8, none⟩ a8).setCell ⟨g, 9, none⟩ a9) := ((((((((((h.setCell (p := ⟨g, 0, none⟩) hg a0).setCell (p := ⟨g, 1, none⟩) hg a1).setCell (p := ⟨g, 2, none⟩) hg a2).setCell (p := ⟨g, 3, none⟩) hg a3).setCell (p := ⟨g, 4, none⟩) hg a4).setCell (p := ⟨g, 5, none⟩) hg a5).setCell (p := ⟨g, 6, none⟩) hg a6).setCell (p := ⟨g, 7, none⟩) hg a7).setCell (p := ⟨g, 8, none⟩) hg a8).setCell (p := ⟨g, 9, none⟩) hg a9)
theorem below_al {w W : World} (h : Below w.heap.size w W) (o : Obj) : Below w.heap.size w (W.alloc o) := h.alloc h.size o
theorem below_drew0 {w : World} : Below w.heap.size w w.drew := below_drew1 (Below.refl _ _)
theorem lkey_fits {u s : List UInt8} (hu : u.length ≤ 1000) (hs : s.length ≤ 1000) : ∀ j (h : j < (lkey u s).length), (lkey u s)[j].name.length ≤ 1000 ∧ (lkey u s)[j].value.length ≤ 1000 := fun j hj => by
  match j, hj with
  | 0, _ => exact ⟨by show 4 ≤ 1000; decide, hu⟩
  | 1, _ => exact ⟨by show 7 ≤ 1000; decide, hs⟩
theorem start_lkey (P : List UInt8) (r : Int) (u s n : List UInt8) (C : Cnv) (er : Int) (h : Au.start P r (lkey u s) n = (C, er)) (hu : u.length ≤ 1000) (hs : s.length ≤ 1000) (hn : n.length ≤ 1000) (W : World) (v : Value) (hk : Atts W v (lkey u s)) :
    Calls Tryd.prog 11 #[.string (T P), .int .i64 r, v, .string (T n)] W fun e w' => ∃ a m k, e = .returned (.tuple #[.agg #[.int .i64 C.id, .string (T C.proto), .int .i64 C.role, .int .i64 C.phase, .int .i64 C.step, (.slice a m k), .string (T C.own), .string (T C.peer), .string (T C.user), .int .i64 C.err], .int .i64 er]) ∧ Atts w' (.slice a m k) C.key ∧ (∀ q, a = some q → W.heap.size ≤ q.block) ∧ Below W.heap.size W w' :=
  (start_any P r v (lkey u s) n W hk (by show 2 ≤ 1000; decide) (lkey_fits hu hs) hn).mono fun e w' h' => by
    obtain ⟨a, m, k, h1, h2, h3, h4⟩ := h'
    rw [h] at h1 h2
    exact ⟨a, m, k, h1, h2, h3, h4⟩
theorem prs_at {W : World} {b : Nat} {P : List UInt8} {j : Nat} (hj : j < 3) (hP : prs[j]? = some (T P)) (h : Strs W (.slice (some ⟨b, 0, none⟩) 3 3) prs) : W.cell? ⟨b, j, none⟩ = some (.string (T P)) := by
  rcases h with ⟨h, _⟩ | ⟨_, _, h, h2⟩ | ⟨b2, o2, _, h, _, _, hc⟩
  · cases h
  · exact absurd h2 (by simp [prs])
  · cases h
    have h0 := hc j hj
    rw [Nat.zero_add] at h0
    rw [h0]
    have : prs[j]? = some prs[j] := List.getElem?_eq_getElem hj
    rw [this] at hP
    rw [Option.some.inj hP]
set_option maxRecDepth 100000 in
set_option maxHeartbeats 16000000 in
theorem honest_T (k : Int) (u s cn sn : List UInt8) (w : World) (hK : KIn w) :
    Calls Tryd.prog 3 #[.int .i64 k, .string (T u), .string (T s), .string (T cn), .string (T sn)] w fun e w' => e = .returned (.bool true) ∧ Below w.heap.size w w' := by
  have HAL := Lib.hid (fun (W : World) (h : Below w.heap.size w W) => awake_any W (hK.below h))
  have HKI := Lib.hid (fun (W : World) (h : Below w.heap.size w W) => hK.below h)
  clear hK
  by_cases k0 : k < 0
  ·
    go_enter Tryd.func3, Tryd.ntmps3
    go_wp2_with fail
    (with_reducible refine (protos_any _).mono ?_); rintro e v1 ⟨pb, rfl, hps, hbl⟩
    have HBW2 := Lib.hid (hbl)
    clear hbl
    clear hps
    go_wp2_with fail
    (with_reducible refine (HAL.out _ HBW2.out).mono ?_); rintro e v3 ⟨rfl, hbz⟩
    have HBW4 := Lib.hid (hbz)
    clear hbz
    have HE := Lib.hid (bnext HBW2.out HBW4.out)
    go_wp2_with fail
    go_ret
    exact ⟨rfl, HE.out⟩
  have f0 : decide (k < 0) = false := decide_eq_false k0
  by_cases k3 : 3 ≤ k
  ·
    go_enter Tryd.func3, Tryd.ntmps3
    go_wp2_with fail
    (with_reducible refine (protos_any _).mono ?_); rintro e v1 ⟨pb, rfl, hps, hbl⟩
    have HBW2 := Lib.hid (hbl)
    clear hbl
    clear hps
    go_wp2_with fail
    (with_reducible refine (HAL.out _ HBW2.out).mono ?_); rintro e v3 ⟨rfl, hbz⟩
    have HBW4 := Lib.hid (hbz)
    clear hbz
    have HE := Lib.hid (bnext HBW2.out HBW4.out)
    go_wp2_with fail
    go_ret
    exact ⟨rfl, HE.out⟩
  have f1 : decide ((3 : Int) ≤ k) = false := decide_eq_false k3
  obtain ⟨j, rfl⟩ : ∃ j : Nat, k = (j : Int) := ⟨k.toNat, by omega⟩
  have hj : j < 3 := by omega
  by_cases lu : 200 < u.length
  · have f2 : (200 : Int) < (u.length : Int) := by omega
    clear k0 k3 hj lu
    go_enter Tryd.func3, Tryd.ntmps3
    go_wp2_with fail
    (with_reducible refine (protos_any _).mono ?_); rintro e v1 ⟨pb, rfl, hps, hbl⟩
    have HBW2 := Lib.hid (hbl)
    clear hbl
    clear hps
    go_wp2_with fail
    (with_reducible refine (HAL.out _ HBW2.out).mono ?_); rintro e v3 ⟨rfl, hbz⟩
    have HBW4 := Lib.hid (hbz)
    clear hbz
    have HE := Lib.hid (bnext HBW2.out HBW4.out)
    go_wp2_with fail
    go_ret
    exact ⟨rfl, HE.out⟩
  have f2 : decide ((200 : Int) < (u.length : Int)) = false := decide_eq_false (by omega)
  by_cases ls : 200 < s.length
  · have f3 : (200 : Int) < (s.length : Int) := by omega
    clear k0 k3 hj lu ls
    go_enter Tryd.func3, Tryd.ntmps3
    go_wp2_with fail
    (with_reducible refine (protos_any _).mono ?_); rintro e v1 ⟨pb, rfl, hps, hbl⟩
    have HBW2 := Lib.hid (hbl)
    clear hbl
    clear hps
    go_wp2_with fail
    (with_reducible refine (HAL.out _ HBW2.out).mono ?_); rintro e v3 ⟨rfl, hbz⟩
    have HBW4 := Lib.hid (hbz)
    clear hbz
    have HE := Lib.hid (bnext HBW2.out HBW4.out)
    go_wp2_with fail
    go_ret
    exact ⟨rfl, HE.out⟩
  have f3 : decide ((200 : Int) < (s.length : Int)) = false := decide_eq_false (by omega)
  by_cases lc : 100 < cn.length
  · have f4 : (100 : Int) < (cn.length : Int) := by omega
    clear k0 k3 hj lu ls lc
    go_enter Tryd.func3, Tryd.ntmps3
    go_wp2_with fail
    (with_reducible refine (protos_any _).mono ?_); rintro e v1 ⟨pb, rfl, hps, hbl⟩
    have HBW2 := Lib.hid (hbl)
    clear hbl
    clear hps
    go_wp2_with fail
    (with_reducible refine (HAL.out _ HBW2.out).mono ?_); rintro e v3 ⟨rfl, hbz⟩
    have HBW4 := Lib.hid (hbz)
    clear hbz
    have HE := Lib.hid (bnext HBW2.out HBW4.out)
    go_wp2_with fail
    go_ret
    exact ⟨rfl, HE.out⟩
  have f4 : decide ((100 : Int) < (cn.length : Int)) = false := decide_eq_false (by omega)
  by_cases lv : 100 < sn.length
  · have f5 : (100 : Int) < (sn.length : Int) := by omega
    clear k0 k3 hj lu ls lc lv
    go_enter Tryd.func3, Tryd.ntmps3
    go_wp2_with fail
    (with_reducible refine (protos_any _).mono ?_); rintro e v1 ⟨pb, rfl, hps, hbl⟩
    have HBW2 := Lib.hid (hbl)
    clear hbl
    clear hps
    go_wp2_with fail
    (with_reducible refine (HAL.out _ HBW2.out).mono ?_); rintro e v3 ⟨rfl, hbz⟩
    have HBW4 := Lib.hid (hbz)
    clear hbz
    have HE := Lib.hid (bnext HBW2.out HBW4.out)
    go_wp2_with fail
    go_ret
    exact ⟨rfl, HE.out⟩
  have f5 : decide ((100 : Int) < (sn.length : Int)) = false := decide_eq_false (by omega)
  obtain ⟨P, hP⟩ : ∃ P : List UInt8, prs[j]? = some (T P) := ⟨prs[j].data.toList, by rw [T_of]; exact List.getElem?_eq_getElem hj⟩
  have hPj := Lib.hid (fun (b : Nat) (W : World) (h : Strs W (.slice (some ⟨b, 0, none⟩) 3 3) prs) => prs_at hj hP h)
  have j0 : (0 : Int) ≤ (j : Int) := by omega
  have j3 : (j : Int) < 3 := by omega
  obtain ⟨C, er, hC⟩ : ∃ R e, Au.start P 1 (lkey u s) cn = (R, e) := ⟨_, _, rfl⟩
  obtain ⟨D, fr, hD⟩ : ∃ R e, Au.start P 2 (lkey u s) sn = (R, e) := ⟨_, _, rfl⟩
  have HSC := Lib.hid (fun (W : World) (v : Value) (hk : Atts W v (lkey u s)) => start_lkey P 1 u s cn C er hC (by omega) (by omega) (by omega) W v hk)
  have HSD := Lib.hid (fun (W : World) (v : Value) (hk : Atts W v (lkey u s)) => start_lkey P 2 u s sn D fr hD (by omega) (by omega) (by omega) W v hk)
  have HC := Lib.hid hC
  have HD := Lib.hid hD
  clear hC hD k0 k3 hj lu ls lc lv hP
  go_enter Tryd.func3, Tryd.ntmps3
  go_wp2_with fail
  (with_reducible refine (protos_any _).mono ?_); rintro e v1 ⟨pb, rfl, hps, hbl⟩
  have HBW2 := Lib.hid (hbl)
  clear hbl
  have HPS := Lib.hid hps
  clear hps
  have HP0a := Lib.hid (hPj.out pb v1 (HPS.out.below (Below.refl _ _)))
  go_upto_region 4 with fail
  have HSD0a := Lib.hid (sd1 HP0a.out (below_drew0 (w := v1)))
  have HKYZa := Lib.hid (fun (W' : World) (g0 : Nat) (h : W'.cell? ⟨pb, j, none⟩ = some (.string (T P)) ∧ Below v1.heap.size v1 W') (hz : W'.heap[g0]? = some (.cells #[.int .i64 0, .string (T []), .int .i64 0, .int .i64 0, .int .i64 0, .slice none 0 0, .string (T []), .string (T []), .string (T []), .int .i64 0] 28 (0, 0))) => (key_any u s W').mono fun e w' h' => (⟨W'.heap.size, h'.1, h'.2.1, sd1 HP0a.out (bnext (h.2) h'.2.2), Lib.hid ((h'.2.2.block _ (row_ltA hz)).trans hz)⟩ : ∃ g, e = .returned (.slice (some ⟨g, 0, none⟩) 2 2) ∧ Atts w' (.slice (some ⟨g, 0, none⟩) 2 2) (lkey u s) ∧ (w'.cell? ⟨pb, j, none⟩ = some (.string (T P)) ∧ Below v1.heap.size v1 w') ∧ Hid (w'.heap[g0]? = some (.cells #[.int .i64 0, .string (T []), .int .i64 0, .int .i64 0, .int .i64 0, .slice none 0 0, .string (T []), .string (T []), .string (T []), .int .i64 0] 28 (0, 0)))))
  have HKYa := Lib.hid (fun (W' : World) (h : W'.cell? ⟨pb, j, none⟩ = some (.string (T P)) ∧ Below v1.heap.size v1 W') => (key_any u s W').mono fun e w' h' => (⟨W'.heap.size, h'.1, h'.2.1, sd1 HP0a.out (bnext (h.2) h'.2.2)⟩ : ∃ g, e = .returned (.slice (some ⟨g, 0, none⟩) 2 2) ∧ Atts w' (.slice (some ⟨g, 0, none⟩) 2 2) (lkey u s) ∧ (w'.cell? ⟨pb, j, none⟩ = some (.string (T P)) ∧ Below v1.heap.size v1 w')))
  have HSTa := Lib.hid (fun (W' : World) (v : Value) (hk : Atts W' v (lkey u s)) (h : W'.cell? ⟨pb, j, none⟩ = some (.string (T P)) ∧ Below v1.heap.size v1 W') => (HSC.out W' v hk).mono fun e w' h' => (by obtain ⟨a, n, k, h1, h2, h3, h4⟩ := h'; exact ⟨a, n, k, h1, Lib.hid h2, sd1 HP0a.out (bnext (h.2) h4)⟩ : ∃ a n k, e = .returned (.tuple #[.agg #[.int .i64 C.id, .string (T C.proto), .int .i64 C.role, .int .i64 C.phase, .int .i64 C.step, (.slice a n k), .string (T C.own), .string (T C.peer), .string (T C.user), .int .i64 C.err], .int .i64 er]) ∧ Hid (Atts w' (.slice a n k) C.key) ∧ (w'.cell? ⟨pb, j, none⟩ = some (.string (T P)) ∧ Below v1.heap.size v1 w')))
  have HSTZa := Lib.hid (fun (W' : World) (v : Value) (g0 : Nat) (hk : Atts W' v (lkey u s)) (hz : W'.heap[g0]? = some (.cells #[.int .i64 0, .string (T []), .int .i64 0, .int .i64 0, .int .i64 0, .slice none 0 0, .string (T []), .string (T []), .string (T []), .int .i64 0] 28 (0, 0))) (hge : v1.heap.size ≤ g0) (h : W'.cell? ⟨pb, j, none⟩ = some (.string (T P)) ∧ Below v1.heap.size v1 W') => (HSC.out W' v hk).mono fun e w' h' => (by obtain ⟨a, n, k, h1, h2, h3, h4⟩ := h'; exact ⟨a, n, k, h1, Lib.hid h2, sd1 HP0a.out (bnext (h.2) h4), Lib.hid ⟨(h4.block _ (row_ltA hz)).trans hz, fun q hq => (by have := h3 q hq; have := row_ltA hz; omega)⟩, Lib.hid hge, cv_readsZ ((h4.block _ (row_ltA hz)).trans hz)⟩ : ∃ a n k, e = .returned (.tuple #[.agg #[.int .i64 C.id, .string (T C.proto), .int .i64 C.role, .int .i64 C.phase, .int .i64 C.step, (.slice a n k), .string (T C.own), .string (T C.peer), .string (T C.user), .int .i64 C.err], .int .i64 er]) ∧ Hid (Atts w' (.slice a n k) C.key) ∧ (w'.cell? ⟨pb, j, none⟩ = some (.string (T P)) ∧ Below v1.heap.size v1 w') ∧ Hid (w'.heap[g0]? = some (.cells #[.int .i64 0, .string (T []), .int .i64 0, .int .i64 0, .int .i64 0, .slice none 0 0, .string (T []), .string (T []), .string (T []), .int .i64 0] 28 (0, 0)) ∧ ∀ q, a = some q → q.block ≠ g0) ∧ Hid (v1.heap.size ≤ g0) ∧ (w'.cell? ⟨g0, 0, none⟩ = some (.int .i64 0) ∧ w'.cell? ⟨g0, 1, none⟩ = some (.string (T [])) ∧ w'.cell? ⟨g0, 2, none⟩ = some (.int .i64 0) ∧ w'.cell? ⟨g0, 3, none⟩ = some (.int .i64 0) ∧ w'.cell? ⟨g0, 4, none⟩ = some (.int .i64 0) ∧ w'.cell? ⟨g0, 5, none⟩ = some (.slice none 0 0) ∧ w'.cell? ⟨g0, 6, none⟩ = some (.string (T [])) ∧ w'.cell? ⟨g0, 7, none⟩ = some (.string (T [])) ∧ w'.cell? ⟨g0, 8, none⟩ = some (.string (T [])) ∧ w'.cell? ⟨g0, 9, none⟩ = some (.int .i64 0)) ∧ (w'.frozen? ⟨g0, 0, none⟩ = false ∧ w'.frozen? ⟨g0, 1, none⟩ = false ∧ w'.frozen? ⟨g0, 2, none⟩ = false ∧ w'.frozen? ⟨g0, 3, none⟩ = false ∧ w'.frozen? ⟨g0, 4, none⟩ = false ∧ w'.frozen? ⟨g0, 5, none⟩ = false ∧ w'.frozen? ⟨g0, 6, none⟩ = false ∧ w'.frozen? ⟨g0, 7, none⟩ = false ∧ w'.frozen? ⟨g0, 8, none⟩ = false ∧ w'.frozen? ⟨g0, 9, none⟩ = false)))
  have HKYAa := Lib.hid (HKYZa.out ((v1.alloc (.cells #[.int .i64 0, .string (T []), .int .i64 0, .int .i64 0, .int .i64 0, .slice none 0 0, .string (T []), .string (T []), .string (T []), .int .i64 0] 28)).drew) v1.heap.size (sd1 HP0a.out (below_drew1 (below_al (Below.refl _ _) _))) (heap_alloc_new v1 _))
  have HSTAa := Lib.hid (fun (W' : World) (v : Value) (hk : Atts W' v (lkey u s)) (h : W'.cell? ⟨pb, j, none⟩ = some (.string (T P)) ∧ Below v1.heap.size v1 W') => HSTZa.out (W'.alloc (.cells #[.int .i64 0, .string (T []), .int .i64 0, .int .i64 0, .int .i64 0, .slice none 0 0, .string (T []), .string (T []), .string (T []), .int .i64 0] 28)) v W'.heap.size (hk.below (below_al (Below.refl _ _) _)) (heap_alloc_new W' _) (h.2).size (sd1 HP0a.out (below_al (h.2) _)))
  have HGEa := Lib.hid (Nat.le_refl v1.heap.size)
  clear HKYZa
  go_cut [12, 13] (fun p q w' => ∃ g, p = .pointer (some ⟨g, 0, none⟩) ∧ q = .int .i64 er ∧ Hid (∃ ao n k, Bx w' g C ao n k ∧ Below v1.heap.size v1 w'))
  case first =>
    repeat (rename (∀ (a : Act) (w : World), Code.wp _ _ _ a w → _) => ax; clear ax)
    refine wp_region_held_drew (S := (fun W' => W'.cell? ⟨pb, j, none⟩ = some (.string (T P)) ∧ Below v1.heap.size v1 W')) (by kernel_rfl) HSD0a.out (fun hHeld => ?_)
    refine wpAnyH_takeD (i := 0) (d := 57) (v := ?vq1a) rfl rfl (by kernel_rfl) (by kernel_rfl) (by kernel_rfl) (fun _ _ _ h => h) (Or.inl ⟨by rfl, ?yq1a⟩) (by assumption) ?rq1a
    case yq1a => (intro w hSw; (try dsimp only at hSw); go_simp <;> with_reducible rfl)
    try simp only [Act.put, List.setIfInBounds_toArray, List.set_cons_zero, List.set_cons_succ]
    refine wpAnyH_takeD (i := 1) (d := 58) (v := ?vq2a) rfl rfl (by kernel_rfl) (by kernel_rfl) (by kernel_rfl) (fun _ _ _ h => h) (Or.inl ⟨by rfl, ?yq2a⟩) (by assumption) ?rq2a
    case yq2a => (intro w hSw; (try dsimp only at hSw); go_simp <;> with_reducible rfl)
    try simp only [Act.put, List.setIfInBounds_toArray, List.set_cons_zero, List.set_cons_succ]
    refine wpAnyH_takeD (i := 2) (d := 59) (v := ?vq3a) rfl rfl (by kernel_rfl) (by kernel_rfl) (by kernel_rfl) (fun _ _ _ h => h) (Or.inl ⟨by rfl, ?yq3a⟩) (by assumption) ?rq3a
    case yq3a => (intro w hSw; (try dsimp only at hSw); go_simp <;> with_reducible rfl)
    try simp only [Act.put, List.setIfInBounds_toArray, List.set_cons_zero, List.set_cons_succ]
    refine wpAnyH_takeD (i := 3) (d := 60) (v := ?vq4a) rfl rfl (by kernel_rfl) (by kernel_rfl) (by kernel_rfl) (fun _ _ _ h => h) (Or.inl ⟨by rfl, ?yq4a⟩) (by assumption) ?rq4a
    case yq4a => (intro w hSw; (try dsimp only at hSw); go_simp <;> with_reducible rfl)
    try simp only [Act.put, List.setIfInBounds_toArray, List.set_cons_zero, List.set_cons_succ]
    refine wpAnyH_takeD (i := 4) (d := 61) (v := ?vq5a) rfl rfl (by kernel_rfl) (by kernel_rfl) (by kernel_rfl) (fun _ _ _ h => h) (Or.inl ⟨by rfl, ?yq5a⟩) (by assumption) ?rq5a
    case yq5a => (intro w hSw; (try dsimp only at hSw); go_simp <;> with_reducible rfl)
    try simp only [Act.put, List.setIfInBounds_toArray, List.set_cons_zero, List.set_cons_succ]
    refine wpAnyH_takeD (i := 5) (d := 62) (v := ?vq6a) rfl rfl (by kernel_rfl) (by kernel_rfl) (by kernel_rfl) (fun _ _ _ h => h) (Or.inl ⟨by rfl, ?yq6a⟩) (by assumption) ?rq6a
    case yq6a => (intro w hSw; (try dsimp only at hSw); go_simp <;> with_reducible rfl)
    try simp only [Act.put, List.setIfInBounds_toArray, List.set_cons_zero, List.set_cons_succ]
    refine wpAnyH_takeD (i := 7) (d := 64) (v := ?vq7a) rfl rfl (by kernel_rfl) (by kernel_rfl) (by kernel_rfl) (fun _ _ _ h => h) (Or.inl ⟨by rfl, ?yq7a⟩) (by assumption) ?rq7a
    case yq7a => (intro w hSw; (try dsimp only at hSw); go_simp <;> with_reducible rfl)
    try simp only [Act.put, List.setIfInBounds_toArray, List.set_cons_zero, List.set_cons_succ]
    refine wpAnyH_ready (rs := [6, 12]) (by kernel_rfl) (by simp) ?_
    refine AllReadyH.cons rfl (fun K hK => ?_) (AllReadyH.cons rfl (fun K hK => ?_) AllReadyH.nil)
    · go_simp
      go_wp2_with (go_at_call 12; (with_reducible refine (HKYa.out _ HSD0a.out).mono ?_); rintro e w1 ⟨gk, rfl, hka, hkeep⟩)
      refine hK.out _ _ hkeep (fun hHeld => ?_)
      clear hK K
      try simp only [Act.put, List.setIfInBounds_toArray, List.set_cons_zero, List.set_cons_succ]
      refine wpAnyH_ready (rs := [8, 12]) (by kernel_rfl) (by simp) ?_
      refine AllReadyH.cons rfl (fun K hK => ?_) (AllReadyH.cons rfl (fun K hK => ?_) AllReadyH.nil)
      · go_simp
        go_wp2_with (go_at_call 11; (with_reducible refine (HSTa.out _ _ hka hkeep).mono ?_); rintro e w2 ⟨qa, qn, qk, rfl, hta, hkeep2⟩)
        refine hK.out _ _ hkeep2 (fun hHeld => ?_)
        clear hK K
        try simp only [Act.put, List.setIfInBounds_toArray, List.set_cons_zero, List.set_cons_succ]
        refine wpAnyH_takeD (i := 9) (d := 56) (v := ?vq8a) rfl rfl (by kernel_rfl) (by kernel_rfl) (by kernel_rfl) (fun _ _ _ h => h) (Or.inl ⟨by rfl, ?yq8a⟩) (by assumption) ?rq8a
        case yq8a => (intro w hSw; (try dsimp only at hSw); go_simp <;> with_reducible rfl)
        try simp only [Act.put, List.setIfInBounds_toArray, List.set_cons_zero, List.set_cons_succ]
        refine wpAnyH_takeD (i := 10) (d := 66) (v := ?vq9a) rfl rfl (by kernel_rfl) (by kernel_rfl) (by kernel_rfl) (fun _ _ _ h => h) (Or.inl ⟨by rfl, ?yq9a⟩) (by assumption) ?rq9a
        case yq9a => (intro w hSw; (try dsimp only at hSw); go_simp <;> with_reducible rfl)
        try simp only [Act.put, List.setIfInBounds_toArray, List.set_cons_zero, List.set_cons_succ]
        refine wpAnyH_takeD (i := 11) (d := 67) (v := ?vq10a) rfl rfl (by kernel_rfl) (by kernel_rfl) (by kernel_rfl) (fun _ _ _ h => h) (Or.inl ⟨by rfl, ?yq10a⟩) (by assumption) ?rq10a
        case yq10a => (intro w hSw; (try dsimp only at hSw); go_simp <;> with_reducible rfl)
        try simp only [Act.put, List.setIfInBounds_toArray, List.set_cons_zero, List.set_cons_succ]
        refine wpAnyH_ready (rs := [12]) (by kernel_rfl) (by simp) ?_
        refine AllReadyH.cons rfl (fun K hK => ?_) AllReadyH.nil
        · clear hka hkeep hHeld
          go_simp
          refine hK.out _ _ (sd1 HP0a.out (below_al (hkeep2.2) _)) (fun hHeld => ?_)
          clear hK K
          try simp only [Act.put, List.setIfInBounds_toArray, List.set_cons_zero, List.set_cons_succ]
          refine wpAnyH_ready (rs := [13]) (by kernel_rfl) (by simp) ?_
          refine AllReadyH.cons rfl (fun K hK => ?_) AllReadyH.nil
          · go_simp
            refine hK.out _ _ (sd1 HP0a.out (below_al (hkeep2.2) _)) (fun hHeld => ?_)
            clear hK K
            try simp only [Act.put, List.setIfInBounds_toArray, List.set_cons_zero, List.set_cons_succ]
            refine wpAnyH_takeD (i := 14) (d := 13) (v := ?vq11a) rfl rfl (by kernel_rfl) (by kernel_rfl) (by kernel_rfl) (fun _ _ _ h => h) (Or.inl ⟨by rfl, ?yq11a⟩) (by assumption) ?rq11a
            case yq11a => (intro w hSw; (try dsimp only at hSw); go_simp <;> with_reducible rfl)
            try simp only [Act.put, List.setIfInBounds_toArray, List.set_cons_zero, List.set_cons_succ]
            refine wpAnyH_done (by kernel_rfl) ?_ _
            go_wp2_with fail
            go_meet
            exact ⟨_, rfl, rfl, Lib.hid ⟨qa, qn, qk, bx_new hta.out, below_al (hkeep2.2) _⟩⟩
      · go_simp
        refine hK.out _ _ (sd1 HP0a.out (below_al (hkeep.2) _)) (fun hHeld => ?_)
        clear hK K
        try simp only [Act.put, List.setIfInBounds_toArray, List.set_cons_zero, List.set_cons_succ]
        refine wpAnyH_ready (rs := [8]) (by kernel_rfl) (by simp) ?_
        refine AllReadyH.cons rfl (fun K hK => ?_) AllReadyH.nil
        · go_simp
          go_wp2_with (go_at_call 11; (with_reducible refine (HSTAa.out _ _ hka hkeep).mono ?_); rintro e w2 ⟨qa, qn, qk, rfl, hta, hkeep2, hz2, hge2, ⟨z0, z1, z2, z3, z4, z5, z6, z7, z8, z9⟩, ⟨y0, y1, y2, y3, y4, y5, y6, y7, y8, y9⟩⟩)
          refine hK.out _ _ hkeep2 (fun hHeld => ?_)
          clear hK K
          try simp only [Act.put, List.setIfInBounds_toArray, List.set_cons_zero, List.set_cons_succ]
          refine wpAnyH_takeD (i := 9) (d := 56) (v := ?vq12a) rfl rfl (by kernel_rfl) (by kernel_rfl) (by kernel_rfl) (fun _ _ _ h => h) (Or.inl ⟨by rfl, ?yq12a⟩) (by assumption) ?rq12a
          case yq12a => (intro w hSw; (try dsimp only at hSw); go_simp <;> with_reducible rfl)
          try simp only [Act.put, List.setIfInBounds_toArray, List.set_cons_zero, List.set_cons_succ]
          refine wpAnyH_takeD (i := 10) (d := 66) (v := ?vq13a) rfl rfl (by kernel_rfl) (by kernel_rfl) (by kernel_rfl) (fun _ _ _ h => h) (Or.inl ⟨by rfl, ?yq13a⟩) (by assumption) ?rq13a
          case yq13a => (intro w hSw; (try dsimp only at hSw); go_simp <;> with_reducible rfl)
          try simp only [Act.put, List.setIfInBounds_toArray, List.set_cons_zero, List.set_cons_succ]
          refine wpAnyH_takeD (i := 11) (d := 67) (v := ?vq14a) rfl rfl (by kernel_rfl) (by kernel_rfl) (by kernel_rfl) (fun _ _ _ h => h) (Or.inl ⟨by rfl, ?yq14a⟩) (by assumption) ?rq14a
          case yq14a => (intro w hSw; (try dsimp only at hSw); go_simp <;> with_reducible rfl)
          try simp only [Act.put, List.setIfInBounds_toArray, List.set_cons_zero, List.set_cons_succ]
          refine wpAnyH_ready (rs := [13]) (by kernel_rfl) (by simp) ?_
          refine AllReadyH.cons rfl (fun K hK => ?_) AllReadyH.nil
          · clear hka hkeep hHeld
            go_simp
            refine hK.out _ _ (sd1 HP0a.out (below_set10 (hkeep2.2) hge2.out _ _ _ _ _ _ _ _ _ _)) (fun hHeld => ?_)
            clear hK K
            try simp only [Act.put, List.setIfInBounds_toArray, List.set_cons_zero, List.set_cons_succ]
            refine wpAnyH_takeD (i := 14) (d := 13) (v := ?vq15a) rfl rfl (by kernel_rfl) (by kernel_rfl) (by kernel_rfl) (fun _ _ _ h => h) (Or.inl ⟨by rfl, ?yq15a⟩) (by assumption) ?rq15a
            case yq15a => (intro w hSw; (try dsimp only at hSw); go_simp <;> with_reducible rfl)
            try simp only [Act.put, List.setIfInBounds_toArray, List.set_cons_zero, List.set_cons_succ]
            refine wpAnyH_done (by kernel_rfl) ?_ _
            go_wp2_with fail
            have hq := cv_stored (.int .i64 C.id) (.string (T C.proto)) (.int .i64 C.role) (.int .i64 C.phase) (.int .i64 C.step) ((.slice qa qn qk)) (.string (T C.own)) (.string (T C.peer)) (.string (T C.user)) (.int .i64 C.err) hz2.out.1
            go_meet
            exact ⟨_, rfl, rfl, Lib.hid ⟨qa, qn, qk, ⟨hq.1, hta.out.grown hq.2 hz2.out.2⟩, below_set10 (hkeep2.2) hge2.out _ _ _ _ _ _ _ _ _ _⟩⟩
    · go_simp
      refine hK.out _ _ (sd1 HP0a.out (below_al below_drew0 _)) (fun hHeld => ?_)
      clear hK K
      try simp only [Act.put, List.setIfInBounds_toArray, List.set_cons_zero, List.set_cons_succ]
      refine wpAnyH_ready (rs := [6]) (by kernel_rfl) (by simp) ?_
      refine AllReadyH.cons rfl (fun K hK => ?_) AllReadyH.nil
      · go_simp
        go_wp2_with (go_at_call 12; (with_reducible refine HKYAa.out.mono ?_); rintro e w1 ⟨gk, rfl, hka, hkeep, hzk⟩)
        refine hK.out _ _ hkeep (fun hHeld => ?_)
        clear hK K
        try simp only [Act.put, List.setIfInBounds_toArray, List.set_cons_zero, List.set_cons_succ]
        refine wpAnyH_ready (rs := [8]) (by kernel_rfl) (by simp) ?_
        refine AllReadyH.cons rfl (fun K hK => ?_) AllReadyH.nil
        · go_simp
          go_wp2_with (go_at_call 11; (with_reducible refine (HSTZa.out _ _ _ hka hzk.out HGEa.out hkeep).mono ?_); rintro e w2 ⟨qa, qn, qk, rfl, hta, hkeep2, hz2, hge2, ⟨z0, z1, z2, z3, z4, z5, z6, z7, z8, z9⟩, ⟨y0, y1, y2, y3, y4, y5, y6, y7, y8, y9⟩⟩)
          refine hK.out _ _ hkeep2 (fun hHeld => ?_)
          clear hK K
          try simp only [Act.put, List.setIfInBounds_toArray, List.set_cons_zero, List.set_cons_succ]
          refine wpAnyH_takeD (i := 9) (d := 56) (v := ?vq16a) rfl rfl (by kernel_rfl) (by kernel_rfl) (by kernel_rfl) (fun _ _ _ h => h) (Or.inl ⟨by rfl, ?yq16a⟩) (by assumption) ?rq16a
          case yq16a => (intro w hSw; (try dsimp only at hSw); go_simp <;> with_reducible rfl)
          try simp only [Act.put, List.setIfInBounds_toArray, List.set_cons_zero, List.set_cons_succ]
          refine wpAnyH_takeD (i := 10) (d := 66) (v := ?vq17a) rfl rfl (by kernel_rfl) (by kernel_rfl) (by kernel_rfl) (fun _ _ _ h => h) (Or.inl ⟨by rfl, ?yq17a⟩) (by assumption) ?rq17a
          case yq17a => (intro w hSw; (try dsimp only at hSw); go_simp <;> with_reducible rfl)
          try simp only [Act.put, List.setIfInBounds_toArray, List.set_cons_zero, List.set_cons_succ]
          refine wpAnyH_takeD (i := 11) (d := 67) (v := ?vq18a) rfl rfl (by kernel_rfl) (by kernel_rfl) (by kernel_rfl) (fun _ _ _ h => h) (Or.inl ⟨by rfl, ?yq18a⟩) (by assumption) ?rq18a
          case yq18a => (intro w hSw; (try dsimp only at hSw); go_simp <;> with_reducible rfl)
          try simp only [Act.put, List.setIfInBounds_toArray, List.set_cons_zero, List.set_cons_succ]
          refine wpAnyH_ready (rs := [13]) (by kernel_rfl) (by simp) ?_
          refine AllReadyH.cons rfl (fun K hK => ?_) AllReadyH.nil
          · clear hka hkeep hHeld
            go_simp
            refine hK.out _ _ (sd1 HP0a.out (below_set10 (hkeep2.2) hge2.out _ _ _ _ _ _ _ _ _ _)) (fun hHeld => ?_)
            clear hK K
            try simp only [Act.put, List.setIfInBounds_toArray, List.set_cons_zero, List.set_cons_succ]
            refine wpAnyH_takeD (i := 14) (d := 13) (v := ?vq19a) rfl rfl (by kernel_rfl) (by kernel_rfl) (by kernel_rfl) (fun _ _ _ h => h) (Or.inl ⟨by rfl, ?yq19a⟩) (by assumption) ?rq19a
            case yq19a => (intro w hSw; (try dsimp only at hSw); go_simp <;> with_reducible rfl)
            try simp only [Act.put, List.setIfInBounds_toArray, List.set_cons_zero, List.set_cons_succ]
            refine wpAnyH_done (by kernel_rfl) ?_ _
            go_wp2_with fail
            have hq := cv_stored (.int .i64 C.id) (.string (T C.proto)) (.int .i64 C.role) (.int .i64 C.phase) (.int .i64 C.step) ((.slice qa qn qk)) (.string (T C.own)) (.string (T C.peer)) (.string (T C.user)) (.int .i64 C.err) hz2.out.1
            go_meet
            exact ⟨_, rfl, rfl, Lib.hid ⟨qa, qn, qk, ⟨hq.1, hta.out.grown hq.2 hz2.out.2⟩, below_set10 (hkeep2.2) hge2.out _ _ _ _ _ _ _ _ _ _⟩⟩
  case rest =>
  obtain ⟨gb, rfl, rfl, hbx⟩ := hcut
  obtain ⟨ba, bn, bk, hx, hb⟩ := hbx.out
  clear hbx HSD0a HKYa HSTa HSTZa HKYAa HSTAa HGEa
  generalize wc = Va at *
  have HXa := Lib.hid hx
  have HBWa := Lib.hid hb
  clear hx hb HP0a
  generalize gb = gc at *
  generalize ba = ca at *
  generalize bn = cm at *
  generalize bk = ck at *
  have HP0b := Lib.hid (hPj.out pb Va (HPS.out.below HBWa.out))
  go_upto_region 5 with fail
  have HSD0b := Lib.hid (sd1 HP0b.out (below_drew0 (w := Va)))
  have HKYZb := Lib.hid (fun (W' : World) (g0 : Nat) (h : W'.cell? ⟨pb, j, none⟩ = some (.string (T P)) ∧ Below Va.heap.size Va W') (hz : W'.heap[g0]? = some (.cells #[.int .i64 0, .string (T []), .int .i64 0, .int .i64 0, .int .i64 0, .slice none 0 0, .string (T []), .string (T []), .string (T []), .int .i64 0] 28 (0, 0))) => (key_any u s W').mono fun e w' h' => (⟨W'.heap.size, h'.1, h'.2.1, sd1 HP0b.out (bnext (h.2) h'.2.2), Lib.hid ((h'.2.2.block _ (row_ltA hz)).trans hz)⟩ : ∃ g, e = .returned (.slice (some ⟨g, 0, none⟩) 2 2) ∧ Atts w' (.slice (some ⟨g, 0, none⟩) 2 2) (lkey u s) ∧ (w'.cell? ⟨pb, j, none⟩ = some (.string (T P)) ∧ Below Va.heap.size Va w') ∧ Hid (w'.heap[g0]? = some (.cells #[.int .i64 0, .string (T []), .int .i64 0, .int .i64 0, .int .i64 0, .slice none 0 0, .string (T []), .string (T []), .string (T []), .int .i64 0] 28 (0, 0)))))
  have HKYb := Lib.hid (fun (W' : World) (h : W'.cell? ⟨pb, j, none⟩ = some (.string (T P)) ∧ Below Va.heap.size Va W') => (key_any u s W').mono fun e w' h' => (⟨W'.heap.size, h'.1, h'.2.1, sd1 HP0b.out (bnext (h.2) h'.2.2)⟩ : ∃ g, e = .returned (.slice (some ⟨g, 0, none⟩) 2 2) ∧ Atts w' (.slice (some ⟨g, 0, none⟩) 2 2) (lkey u s) ∧ (w'.cell? ⟨pb, j, none⟩ = some (.string (T P)) ∧ Below Va.heap.size Va w')))
  have HSTb := Lib.hid (fun (W' : World) (v : Value) (hk : Atts W' v (lkey u s)) (h : W'.cell? ⟨pb, j, none⟩ = some (.string (T P)) ∧ Below Va.heap.size Va W') => (HSD.out W' v hk).mono fun e w' h' => (by obtain ⟨a, n, k, h1, h2, h3, h4⟩ := h'; exact ⟨a, n, k, h1, Lib.hid h2, sd1 HP0b.out (bnext (h.2) h4)⟩ : ∃ a n k, e = .returned (.tuple #[.agg #[.int .i64 D.id, .string (T D.proto), .int .i64 D.role, .int .i64 D.phase, .int .i64 D.step, (.slice a n k), .string (T D.own), .string (T D.peer), .string (T D.user), .int .i64 D.err], .int .i64 fr]) ∧ Hid (Atts w' (.slice a n k) D.key) ∧ (w'.cell? ⟨pb, j, none⟩ = some (.string (T P)) ∧ Below Va.heap.size Va w')))
  have HSTZb := Lib.hid (fun (W' : World) (v : Value) (g0 : Nat) (hk : Atts W' v (lkey u s)) (hz : W'.heap[g0]? = some (.cells #[.int .i64 0, .string (T []), .int .i64 0, .int .i64 0, .int .i64 0, .slice none 0 0, .string (T []), .string (T []), .string (T []), .int .i64 0] 28 (0, 0))) (hge : Va.heap.size ≤ g0) (h : W'.cell? ⟨pb, j, none⟩ = some (.string (T P)) ∧ Below Va.heap.size Va W') => (HSD.out W' v hk).mono fun e w' h' => (by obtain ⟨a, n, k, h1, h2, h3, h4⟩ := h'; exact ⟨a, n, k, h1, Lib.hid h2, sd1 HP0b.out (bnext (h.2) h4), Lib.hid ⟨(h4.block _ (row_ltA hz)).trans hz, fun q hq => (by have := h3 q hq; have := row_ltA hz; omega)⟩, Lib.hid hge, cv_readsZ ((h4.block _ (row_ltA hz)).trans hz)⟩ : ∃ a n k, e = .returned (.tuple #[.agg #[.int .i64 D.id, .string (T D.proto), .int .i64 D.role, .int .i64 D.phase, .int .i64 D.step, (.slice a n k), .string (T D.own), .string (T D.peer), .string (T D.user), .int .i64 D.err], .int .i64 fr]) ∧ Hid (Atts w' (.slice a n k) D.key) ∧ (w'.cell? ⟨pb, j, none⟩ = some (.string (T P)) ∧ Below Va.heap.size Va w') ∧ Hid (w'.heap[g0]? = some (.cells #[.int .i64 0, .string (T []), .int .i64 0, .int .i64 0, .int .i64 0, .slice none 0 0, .string (T []), .string (T []), .string (T []), .int .i64 0] 28 (0, 0)) ∧ ∀ q, a = some q → q.block ≠ g0) ∧ Hid (Va.heap.size ≤ g0) ∧ (w'.cell? ⟨g0, 0, none⟩ = some (.int .i64 0) ∧ w'.cell? ⟨g0, 1, none⟩ = some (.string (T [])) ∧ w'.cell? ⟨g0, 2, none⟩ = some (.int .i64 0) ∧ w'.cell? ⟨g0, 3, none⟩ = some (.int .i64 0) ∧ w'.cell? ⟨g0, 4, none⟩ = some (.int .i64 0) ∧ w'.cell? ⟨g0, 5, none⟩ = some (.slice none 0 0) ∧ w'.cell? ⟨g0, 6, none⟩ = some (.string (T [])) ∧ w'.cell? ⟨g0, 7, none⟩ = some (.string (T [])) ∧ w'.cell? ⟨g0, 8, none⟩ = some (.string (T [])) ∧ w'.cell? ⟨g0, 9, none⟩ = some (.int .i64 0)) ∧ (w'.frozen? ⟨g0, 0, none⟩ = false ∧ w'.frozen? ⟨g0, 1, none⟩ = false ∧ w'.frozen? ⟨g0, 2, none⟩ = false ∧ w'.frozen? ⟨g0, 3, none⟩ = false ∧ w'.frozen? ⟨g0, 4, none⟩ = false ∧ w'.frozen? ⟨g0, 5, none⟩ = false ∧ w'.frozen? ⟨g0, 6, none⟩ = false ∧ w'.frozen? ⟨g0, 7, none⟩ = false ∧ w'.frozen? ⟨g0, 8, none⟩ = false ∧ w'.frozen? ⟨g0, 9, none⟩ = false)))
  have HKYAb := Lib.hid (HKYZb.out ((Va.alloc (.cells #[.int .i64 0, .string (T []), .int .i64 0, .int .i64 0, .int .i64 0, .slice none 0 0, .string (T []), .string (T []), .string (T []), .int .i64 0] 28)).drew) Va.heap.size (sd1 HP0b.out (below_drew1 (below_al (Below.refl _ _) _))) (heap_alloc_new Va _))
  have HSTAb := Lib.hid (fun (W' : World) (v : Value) (hk : Atts W' v (lkey u s)) (h : W'.cell? ⟨pb, j, none⟩ = some (.string (T P)) ∧ Below Va.heap.size Va W') => HSTZb.out (W'.alloc (.cells #[.int .i64 0, .string (T []), .int .i64 0, .int .i64 0, .int .i64 0, .slice none 0 0, .string (T []), .string (T []), .string (T []), .int .i64 0] 28)) v W'.heap.size (hk.below (below_al (Below.refl _ _) _)) (heap_alloc_new W' _) (h.2).size (sd1 HP0b.out (below_al (h.2) _)))
  have HGEb := Lib.hid (Nat.le_refl Va.heap.size)
  clear HKYZb
  go_cut [14, 15] (fun p q w' => ∃ g, p = .pointer (some ⟨g, 0, none⟩) ∧ q = .int .i64 fr ∧ Hid (∃ ao n k, Bx w' g D ao n k ∧ Below Va.heap.size Va w'))
  case first =>
    repeat (rename (∀ (a : Act) (w : World), Code.wp _ _ _ a w → _) => ax; clear ax)
    refine wp_region_held_drew (S := (fun W' => W'.cell? ⟨pb, j, none⟩ = some (.string (T P)) ∧ Below Va.heap.size Va W')) (by kernel_rfl) HSD0b.out (fun hHeld => ?_)
    refine wpAnyH_takeD (i := 0) (d := 69) (v := ?vq20b) rfl rfl (by kernel_rfl) (by kernel_rfl) (by kernel_rfl) (fun _ _ _ h => h) (Or.inl ⟨by rfl, ?yq20b⟩) (by assumption) ?rq20b
    case yq20b => (intro w hSw; (try dsimp only at hSw); go_simp <;> with_reducible rfl)
    try simp only [Act.put, List.setIfInBounds_toArray, List.set_cons_zero, List.set_cons_succ]
    refine wpAnyH_takeD (i := 1) (d := 70) (v := ?vq21b) rfl rfl (by kernel_rfl) (by kernel_rfl) (by kernel_rfl) (fun _ _ _ h => h) (Or.inl ⟨by rfl, ?yq21b⟩) (by assumption) ?rq21b
    case yq21b => (intro w hSw; (try dsimp only at hSw); go_simp <;> with_reducible rfl)
    try simp only [Act.put, List.setIfInBounds_toArray, List.set_cons_zero, List.set_cons_succ]
    refine wpAnyH_takeD (i := 2) (d := 71) (v := ?vq22b) rfl rfl (by kernel_rfl) (by kernel_rfl) (by kernel_rfl) (fun _ _ _ h => h) (Or.inl ⟨by rfl, ?yq22b⟩) (by assumption) ?rq22b
    case yq22b => (intro w hSw; (try dsimp only at hSw); go_simp <;> with_reducible rfl)
    try simp only [Act.put, List.setIfInBounds_toArray, List.set_cons_zero, List.set_cons_succ]
    refine wpAnyH_takeD (i := 3) (d := 72) (v := ?vq23b) rfl rfl (by kernel_rfl) (by kernel_rfl) (by kernel_rfl) (fun _ _ _ h => h) (Or.inl ⟨by rfl, ?yq23b⟩) (by assumption) ?rq23b
    case yq23b => (intro w hSw; (try dsimp only at hSw); go_simp <;> with_reducible rfl)
    try simp only [Act.put, List.setIfInBounds_toArray, List.set_cons_zero, List.set_cons_succ]
    refine wpAnyH_takeD (i := 4) (d := 73) (v := ?vq24b) rfl rfl (by kernel_rfl) (by kernel_rfl) (by kernel_rfl) (fun _ _ _ h => h) (Or.inl ⟨by rfl, ?yq24b⟩) (by assumption) ?rq24b
    case yq24b => (intro w hSw; (try dsimp only at hSw); go_simp <;> with_reducible rfl)
    try simp only [Act.put, List.setIfInBounds_toArray, List.set_cons_zero, List.set_cons_succ]
    refine wpAnyH_takeD (i := 5) (d := 74) (v := ?vq25b) rfl rfl (by kernel_rfl) (by kernel_rfl) (by kernel_rfl) (fun _ _ _ h => h) (Or.inl ⟨by rfl, ?yq25b⟩) (by assumption) ?rq25b
    case yq25b => (intro w hSw; (try dsimp only at hSw); go_simp <;> with_reducible rfl)
    try simp only [Act.put, List.setIfInBounds_toArray, List.set_cons_zero, List.set_cons_succ]
    refine wpAnyH_takeD (i := 7) (d := 76) (v := ?vq26b) rfl rfl (by kernel_rfl) (by kernel_rfl) (by kernel_rfl) (fun _ _ _ h => h) (Or.inl ⟨by rfl, ?yq26b⟩) (by assumption) ?rq26b
    case yq26b => (intro w hSw; (try dsimp only at hSw); go_simp <;> with_reducible rfl)
    try simp only [Act.put, List.setIfInBounds_toArray, List.set_cons_zero, List.set_cons_succ]
    refine wpAnyH_ready (rs := [6, 12]) (by kernel_rfl) (by simp) ?_
    refine AllReadyH.cons rfl (fun K hK => ?_) (AllReadyH.cons rfl (fun K hK => ?_) AllReadyH.nil)
    · go_simp
      go_wp2_with (go_at_call 12; (with_reducible refine (HKYb.out _ HSD0b.out).mono ?_); rintro e w1 ⟨gk, rfl, hka, hkeep⟩)
      refine hK.out _ _ hkeep (fun hHeld => ?_)
      clear hK K
      try simp only [Act.put, List.setIfInBounds_toArray, List.set_cons_zero, List.set_cons_succ]
      refine wpAnyH_ready (rs := [8, 12]) (by kernel_rfl) (by simp) ?_
      refine AllReadyH.cons rfl (fun K hK => ?_) (AllReadyH.cons rfl (fun K hK => ?_) AllReadyH.nil)
      · go_simp
        go_wp2_with (go_at_call 11; (with_reducible refine (HSTb.out _ _ hka hkeep).mono ?_); rintro e w2 ⟨qa, qn, qk, rfl, hta, hkeep2⟩)
        refine hK.out _ _ hkeep2 (fun hHeld => ?_)
        clear hK K
        try simp only [Act.put, List.setIfInBounds_toArray, List.set_cons_zero, List.set_cons_succ]
        refine wpAnyH_takeD (i := 9) (d := 68) (v := ?vq27b) rfl rfl (by kernel_rfl) (by kernel_rfl) (by kernel_rfl) (fun _ _ _ h => h) (Or.inl ⟨by rfl, ?yq27b⟩) (by assumption) ?rq27b
        case yq27b => (intro w hSw; (try dsimp only at hSw); go_simp <;> with_reducible rfl)
        try simp only [Act.put, List.setIfInBounds_toArray, List.set_cons_zero, List.set_cons_succ]
        refine wpAnyH_takeD (i := 10) (d := 78) (v := ?vq28b) rfl rfl (by kernel_rfl) (by kernel_rfl) (by kernel_rfl) (fun _ _ _ h => h) (Or.inl ⟨by rfl, ?yq28b⟩) (by assumption) ?rq28b
        case yq28b => (intro w hSw; (try dsimp only at hSw); go_simp <;> with_reducible rfl)
        try simp only [Act.put, List.setIfInBounds_toArray, List.set_cons_zero, List.set_cons_succ]
        refine wpAnyH_takeD (i := 11) (d := 79) (v := ?vq29b) rfl rfl (by kernel_rfl) (by kernel_rfl) (by kernel_rfl) (fun _ _ _ h => h) (Or.inl ⟨by rfl, ?yq29b⟩) (by assumption) ?rq29b
        case yq29b => (intro w hSw; (try dsimp only at hSw); go_simp <;> with_reducible rfl)
        try simp only [Act.put, List.setIfInBounds_toArray, List.set_cons_zero, List.set_cons_succ]
        refine wpAnyH_ready (rs := [12]) (by kernel_rfl) (by simp) ?_
        refine AllReadyH.cons rfl (fun K hK => ?_) AllReadyH.nil
        · clear hka hkeep hHeld
          go_simp
          refine hK.out _ _ (sd1 HP0b.out (below_al (hkeep2.2) _)) (fun hHeld => ?_)
          clear hK K
          try simp only [Act.put, List.setIfInBounds_toArray, List.set_cons_zero, List.set_cons_succ]
          refine wpAnyH_ready (rs := [13]) (by kernel_rfl) (by simp) ?_
          refine AllReadyH.cons rfl (fun K hK => ?_) AllReadyH.nil
          · go_simp
            refine hK.out _ _ (sd1 HP0b.out (below_al (hkeep2.2) _)) (fun hHeld => ?_)
            clear hK K
            try simp only [Act.put, List.setIfInBounds_toArray, List.set_cons_zero, List.set_cons_succ]
            refine wpAnyH_takeD (i := 14) (d := 15) (v := ?vq30b) rfl rfl (by kernel_rfl) (by kernel_rfl) (by kernel_rfl) (fun _ _ _ h => h) (Or.inl ⟨by rfl, ?yq30b⟩) (by assumption) ?rq30b
            case yq30b => (intro w hSw; (try dsimp only at hSw); go_simp <;> with_reducible rfl)
            try simp only [Act.put, List.setIfInBounds_toArray, List.set_cons_zero, List.set_cons_succ]
            refine wpAnyH_done (by kernel_rfl) ?_ _
            go_wp2_with fail
            go_meet
            exact ⟨_, rfl, rfl, Lib.hid ⟨qa, qn, qk, bx_new hta.out, below_al (hkeep2.2) _⟩⟩
      · go_simp
        refine hK.out _ _ (sd1 HP0b.out (below_al (hkeep.2) _)) (fun hHeld => ?_)
        clear hK K
        try simp only [Act.put, List.setIfInBounds_toArray, List.set_cons_zero, List.set_cons_succ]
        refine wpAnyH_ready (rs := [8]) (by kernel_rfl) (by simp) ?_
        refine AllReadyH.cons rfl (fun K hK => ?_) AllReadyH.nil
        · go_simp
          go_wp2_with (go_at_call 11; (with_reducible refine (HSTAb.out _ _ hka hkeep).mono ?_); rintro e w2 ⟨qa, qn, qk, rfl, hta, hkeep2, hz2, hge2, ⟨z0, z1, z2, z3, z4, z5, z6, z7, z8, z9⟩, ⟨y0, y1, y2, y3, y4, y5, y6, y7, y8, y9⟩⟩)
          refine hK.out _ _ hkeep2 (fun hHeld => ?_)
          clear hK K
          try simp only [Act.put, List.setIfInBounds_toArray, List.set_cons_zero, List.set_cons_succ]
          refine wpAnyH_takeD (i := 9) (d := 68) (v := ?vq31b) rfl rfl (by kernel_rfl) (by kernel_rfl) (by kernel_rfl) (fun _ _ _ h => h) (Or.inl ⟨by rfl, ?yq31b⟩) (by assumption) ?rq31b
          case yq31b => (intro w hSw; (try dsimp only at hSw); go_simp <;> with_reducible rfl)
          try simp only [Act.put, List.setIfInBounds_toArray, List.set_cons_zero, List.set_cons_succ]
          refine wpAnyH_takeD (i := 10) (d := 78) (v := ?vq32b) rfl rfl (by kernel_rfl) (by kernel_rfl) (by kernel_rfl) (fun _ _ _ h => h) (Or.inl ⟨by rfl, ?yq32b⟩) (by assumption) ?rq32b
          case yq32b => (intro w hSw; (try dsimp only at hSw); go_simp <;> with_reducible rfl)
          try simp only [Act.put, List.setIfInBounds_toArray, List.set_cons_zero, List.set_cons_succ]
          refine wpAnyH_takeD (i := 11) (d := 79) (v := ?vq33b) rfl rfl (by kernel_rfl) (by kernel_rfl) (by kernel_rfl) (fun _ _ _ h => h) (Or.inl ⟨by rfl, ?yq33b⟩) (by assumption) ?rq33b
          case yq33b => (intro w hSw; (try dsimp only at hSw); go_simp <;> with_reducible rfl)
          try simp only [Act.put, List.setIfInBounds_toArray, List.set_cons_zero, List.set_cons_succ]
          refine wpAnyH_ready (rs := [13]) (by kernel_rfl) (by simp) ?_
          refine AllReadyH.cons rfl (fun K hK => ?_) AllReadyH.nil
          · clear hka hkeep hHeld
            go_simp
            refine hK.out _ _ (sd1 HP0b.out (below_set10 (hkeep2.2) hge2.out _ _ _ _ _ _ _ _ _ _)) (fun hHeld => ?_)
            clear hK K
            try simp only [Act.put, List.setIfInBounds_toArray, List.set_cons_zero, List.set_cons_succ]
            refine wpAnyH_takeD (i := 14) (d := 15) (v := ?vq34b) rfl rfl (by kernel_rfl) (by kernel_rfl) (by kernel_rfl) (fun _ _ _ h => h) (Or.inl ⟨by rfl, ?yq34b⟩) (by assumption) ?rq34b
            case yq34b => (intro w hSw; (try dsimp only at hSw); go_simp <;> with_reducible rfl)
            try simp only [Act.put, List.setIfInBounds_toArray, List.set_cons_zero, List.set_cons_succ]
            refine wpAnyH_done (by kernel_rfl) ?_ _
            go_wp2_with fail
            have hq := cv_stored (.int .i64 D.id) (.string (T D.proto)) (.int .i64 D.role) (.int .i64 D.phase) (.int .i64 D.step) ((.slice qa qn qk)) (.string (T D.own)) (.string (T D.peer)) (.string (T D.user)) (.int .i64 D.err) hz2.out.1
            go_meet
            exact ⟨_, rfl, rfl, Lib.hid ⟨qa, qn, qk, ⟨hq.1, hta.out.grown hq.2 hz2.out.2⟩, below_set10 (hkeep2.2) hge2.out _ _ _ _ _ _ _ _ _ _⟩⟩
    · go_simp
      refine hK.out _ _ (sd1 HP0b.out (below_al below_drew0 _)) (fun hHeld => ?_)
      clear hK K
      try simp only [Act.put, List.setIfInBounds_toArray, List.set_cons_zero, List.set_cons_succ]
      refine wpAnyH_ready (rs := [6]) (by kernel_rfl) (by simp) ?_
      refine AllReadyH.cons rfl (fun K hK => ?_) AllReadyH.nil
      · go_simp
        go_wp2_with (go_at_call 12; (with_reducible refine HKYAb.out.mono ?_); rintro e w1 ⟨gk, rfl, hka, hkeep, hzk⟩)
        refine hK.out _ _ hkeep (fun hHeld => ?_)
        clear hK K
        try simp only [Act.put, List.setIfInBounds_toArray, List.set_cons_zero, List.set_cons_succ]
        refine wpAnyH_ready (rs := [8]) (by kernel_rfl) (by simp) ?_
        refine AllReadyH.cons rfl (fun K hK => ?_) AllReadyH.nil
        · go_simp
          go_wp2_with (go_at_call 11; (with_reducible refine (HSTZb.out _ _ _ hka hzk.out HGEb.out hkeep).mono ?_); rintro e w2 ⟨qa, qn, qk, rfl, hta, hkeep2, hz2, hge2, ⟨z0, z1, z2, z3, z4, z5, z6, z7, z8, z9⟩, ⟨y0, y1, y2, y3, y4, y5, y6, y7, y8, y9⟩⟩)
          refine hK.out _ _ hkeep2 (fun hHeld => ?_)
          clear hK K
          try simp only [Act.put, List.setIfInBounds_toArray, List.set_cons_zero, List.set_cons_succ]
          refine wpAnyH_takeD (i := 9) (d := 68) (v := ?vq35b) rfl rfl (by kernel_rfl) (by kernel_rfl) (by kernel_rfl) (fun _ _ _ h => h) (Or.inl ⟨by rfl, ?yq35b⟩) (by assumption) ?rq35b
          case yq35b => (intro w hSw; (try dsimp only at hSw); go_simp <;> with_reducible rfl)
          try simp only [Act.put, List.setIfInBounds_toArray, List.set_cons_zero, List.set_cons_succ]
          refine wpAnyH_takeD (i := 10) (d := 78) (v := ?vq36b) rfl rfl (by kernel_rfl) (by kernel_rfl) (by kernel_rfl) (fun _ _ _ h => h) (Or.inl ⟨by rfl, ?yq36b⟩) (by assumption) ?rq36b
          case yq36b => (intro w hSw; (try dsimp only at hSw); go_simp <;> with_reducible rfl)
          try simp only [Act.put, List.setIfInBounds_toArray, List.set_cons_zero, List.set_cons_succ]
          refine wpAnyH_takeD (i := 11) (d := 79) (v := ?vq37b) rfl rfl (by kernel_rfl) (by kernel_rfl) (by kernel_rfl) (fun _ _ _ h => h) (Or.inl ⟨by rfl, ?yq37b⟩) (by assumption) ?rq37b
          case yq37b => (intro w hSw; (try dsimp only at hSw); go_simp <;> with_reducible rfl)
          try simp only [Act.put, List.setIfInBounds_toArray, List.set_cons_zero, List.set_cons_succ]
          refine wpAnyH_ready (rs := [13]) (by kernel_rfl) (by simp) ?_
          refine AllReadyH.cons rfl (fun K hK => ?_) AllReadyH.nil
          · clear hka hkeep hHeld
            go_simp
            refine hK.out _ _ (sd1 HP0b.out (below_set10 (hkeep2.2) hge2.out _ _ _ _ _ _ _ _ _ _)) (fun hHeld => ?_)
            clear hK K
            try simp only [Act.put, List.setIfInBounds_toArray, List.set_cons_zero, List.set_cons_succ]
            refine wpAnyH_takeD (i := 14) (d := 15) (v := ?vq38b) rfl rfl (by kernel_rfl) (by kernel_rfl) (by kernel_rfl) (fun _ _ _ h => h) (Or.inl ⟨by rfl, ?yq38b⟩) (by assumption) ?rq38b
            case yq38b => (intro w hSw; (try dsimp only at hSw); go_simp <;> with_reducible rfl)
            try simp only [Act.put, List.setIfInBounds_toArray, List.set_cons_zero, List.set_cons_succ]
            refine wpAnyH_done (by kernel_rfl) ?_ _
            go_wp2_with fail
            have hq := cv_stored (.int .i64 D.id) (.string (T D.proto)) (.int .i64 D.role) (.int .i64 D.phase) (.int .i64 D.step) ((.slice qa qn qk)) (.string (T D.own)) (.string (T D.peer)) (.string (T D.user)) (.int .i64 D.err) hz2.out.1
            go_meet
            exact ⟨_, rfl, rfl, Lib.hid ⟨qa, qn, qk, ⟨hq.1, hta.out.grown hq.2 hz2.out.2⟩, below_set10 (hkeep2.2) hge2.out _ _ _ _ _ _ _ _ _ _⟩⟩
  case rest =>
  obtain ⟨gb, rfl, rfl, hbx⟩ := hcut
  obtain ⟨ba, bn, bk, hx, hb⟩ := hbx.out
  clear hbx HSD0b HKYb HSTb HSTZb HKYAb HSTAb HGEb
  generalize wc = Vb at *
  have HXb := Lib.hid hx
  have HBWb := Lib.hid hb
  clear hx hb HP0b
  generalize gb = gd at *
  generalize ba = da at *
  generalize bn = dm at *
  generalize bk = dk at *
  by_cases he : er = 0
  rotate_left
  · have g1 : (er != 0) = true := by rw [bne_iff_ne]; exact he
    clear he
    go_wp2_with fail
    (with_reducible refine (HAL.out _ (bnext (bnext HBW2.out HBWa.out) HBWb.out)).mono ?_); rintro e v3 ⟨rfl, hbz⟩
    have HBW4 := Lib.hid (hbz)
    clear hbz
    have HE := Lib.hid (bnext (bnext (bnext HBW2.out HBWa.out) HBWb.out) HBW4.out)
    go_wp2_with fail
    go_ret
    exact ⟨rfl, HE.out⟩
  by_cases hf : fr = 0
  rotate_left
  · have g1 : (er != 0) = false := by rw [he]; rfl
    have g2 : (fr != 0) = true := by rw [bne_iff_ne]; exact hf
    clear he hf
    go_wp2_with fail
    (with_reducible refine (HAL.out _ (bnext (bnext HBW2.out HBWa.out) HBWb.out)).mono ?_); rintro e v3 ⟨rfl, hbz⟩
    have HBW4 := Lib.hid (hbz)
    clear hbz
    have HE := Lib.hid (bnext (bnext (bnext HBW2.out HBWa.out) HBWb.out) HBW4.out)
    go_wp2_with fail
    go_ret
    exact ⟨rfl, HE.out⟩
  subst he hf
  obtain ⟨hfc, hsc, _⟩ := Au.start_lk_fine HC.out
  obtain ⟨hfd, hsd, _⟩ := Au.start_lk_fine HD.out
  obtain ⟨A, B, r, hr1, hr2, hd1, hd2, r2, r3, hka, hkb⟩ := Au.honest_run HC.out HD.out
  have HRN := Lib.hid (fun ao bo m cp n dp (W : World) (h : Atts W (.slice ao m cp) C.key) (h2 : Atts W (.slice bo n dp) D.key) (hk : KIn W) => run_bx C D A B r hr1 ao bo m cp n dp W h h2 hfc hfd (by omega) (by omega) hk)
  have HRM := Lib.hid (fun ao bo m cp n dp (W : World) (h : Atts W (.slice ao m cp) D.key) (h2 : Atts W (.slice bo n dp) C.key) (hk : KIn W) => run_bx D C B A r hr2 ao bo m cp n dp W h h2 hfd hfc (by omega) (by omega) hk)
  have HDA := Lib.hid (fun ao m cp (W : World) => done_bx A _ _ hd1 ao m cp W)
  have HDB := Lib.hid (fun ao m cp (W : World) => done_bx B _ _ hd2 ao m cp W)
  have HSA := Lib.hid (fun v1 v2 (W : World) (h : Atts W v1 A.key) (h2 : Atts W v2 A.key) => same_any A v1 v2 W h h2 (by rw [hka]; show 2 ≤ 1000000; decide))
  have HSB := Lib.hid (fun v1 v2 (W : World) (h : Atts W v1 B.key) (h2 : Atts W v2 B.key) => same_any B v1 v2 W h h2 (by rw [hkb]; show 2 ≤ 1000000; decide))
  clear hfc hsc hfd hsd hr1 hr2 hd1 hd2 hka hkb HC HD HSC HSD hPj HPS
  obtain ⟨⟨x0, x1, x2, x3, x4, x5, x6, x7, x8, x9⟩, _⟩ := cv_reads (Bx.row (HXa.out.next HBWb.out))
  obtain ⟨⟨y0, y1, y2, y3, y4, y5, y6, y7, y8, y9⟩, _⟩ := cv_reads (Bx.row (HXb.out.next (Below.refl _ _)))
  go_wp2_with fail
  (with_reducible refine (HRN.out _ _ _ _ _ _ _ (Bx.att (HXa.out.next HBWb.out)) (Bx.att (HXb.out.next (Below.refl _ _))) (HKI.out _ (bnext (bnext HBW2.out HBWa.out) HBWb.out))).mono ?_); rintro e v3 ⟨a1, a2, a3, b1, b2, b3, rfl, hta, htb, hbl⟩
  clear x0 x1 x2 x3 x4 x5 x6 x7 x8 x9 y0 y1 y2 y3 y4 y5 y6 y7 y8 y9
  have HBW4 := Lib.hid (hbl)
  clear hbl
  have HTA := Lib.hid hta
  have HTB := Lib.hid htb
  clear hta htb
  go_upto_region 9 with fail
  have hx5 := bx_two (A := A) (B := B) HTA.out HTB.out
  generalize World.alloc _ _ = V5 at *
  have HX5 := Lib.hid hx5.1
  have HY5 := Lib.hid hx5.2.1
  have HBV5 := Lib.hid hx5.2.2
  clear hx5 HTA HTB
  obtain ⟨⟨x0, x1, x2, x3, x4, x5, x6, x7, x8, x9⟩, _⟩ := cv_reads (Bx.row (HXb.out.next (bnext HBW4.out HBV5.out)))
  obtain ⟨⟨y0, y1, y2, y3, y4, y5, y6, y7, y8, y9⟩, _⟩ := cv_reads (Bx.row (HXa.out.next (bnext (bnext HBWb.out HBW4.out) HBV5.out)))
  go_wp2_with fail
  (with_reducible refine (HRM.out _ _ _ _ _ _ _ (Bx.att (HXb.out.next (bnext HBW4.out HBV5.out))) (Bx.att (HXa.out.next (bnext (bnext HBWb.out HBW4.out) HBV5.out))) (HKI.out _ (bnext (bnext (bnext (bnext HBW2.out HBWa.out) HBWb.out) HBW4.out) HBV5.out))).mono ?_); rintro e v6 ⟨d1, d2, d3, q1, q2, q3, rfl, hta, htb, hbl⟩
  clear x0 x1 x2 x3 x4 x5 x6 x7 x8 x9 y0 y1 y2 y3 y4 y5 y6 y7 y8 y9
  have HBW7 := Lib.hid (hbl)
  clear hbl
  have HTA := Lib.hid hta
  have HTB := Lib.hid htb
  clear hta htb
  go_upto_region 10 with fail
  have hx8 := bx_two (A := B) (B := A) HTA.out HTB.out
  generalize World.alloc _ _ = V8 at *
  have HX8 := Lib.hid hx8.1
  have HY8 := Lib.hid hx8.2.1
  have HBV8 := Lib.hid hx8.2.2
  clear hx8 HTA HTB
  obtain ⟨⟨x0, x1, x2, x3, x4, x5, x6, x7, x8, x9⟩, _⟩ := cv_reads (Bx.row (HX5.out.next (bnext HBW7.out HBV8.out)))
  go_wp2_with fail
  (with_reducible refine (HDA.out _ _ _ _).mono ?_); rintro e v9 ⟨rfl, hbl⟩
  clear x0 x1 x2 x3 x4 x5 x6 x7 x8 x9
  have HBW10 := Lib.hid (hbl)
  clear hbl
  go_upto_region 11 with fail
  obtain ⟨⟨x0, x1, x2, x3, x4, x5, x6, x7, x8, x9⟩, _⟩ := cv_reads (Bx.row (HY5.out.next (bnext (bnext HBW7.out HBV8.out) HBW10.out)))
  go_wp2_with fail
  (with_reducible refine (HDB.out _ _ _ _).mono ?_); rintro e v11 ⟨rfl, hbl⟩
  clear x0 x1 x2 x3 x4 x5 x6 x7 x8 x9
  have HBW12 := Lib.hid (hbl)
  clear hbl
  go_upto_region 12 with fail
  obtain ⟨⟨x0, x1, x2, x3, x4, x5, x6, x7, x8, x9⟩, _⟩ := cv_reads (Bx.row (HX5.out.next (bnext (bnext (bnext HBW7.out HBV8.out) HBW10.out) HBW12.out)))
  obtain ⟨⟨y0, y1, y2, y3, y4, y5, y6, y7, y8, y9⟩, _⟩ := cv_reads (Bx.row (HY8.out.next (bnext HBW10.out HBW12.out)))
  go_wp2_with fail
  (with_reducible refine (HSA.out _ _ _ (Bx.att (HX5.out.next (bnext (bnext (bnext HBW7.out HBV8.out) HBW10.out) HBW12.out))) (Bx.att (HY8.out.next (bnext HBW10.out HBW12.out)))).mono ?_); rintro e v13 ⟨rfl, hbl⟩
  clear x0 x1 x2 x3 x4 x5 x6 x7 x8 x9 y0 y1 y2 y3 y4 y5 y6 y7 y8 y9
  have HBW14 := Lib.hid (hbl)
  clear hbl
  obtain ⟨⟨x0, x1, x2, x3, x4, x5, x6, x7, x8, x9⟩, _⟩ := cv_reads (Bx.row (HY5.out.next (bnext (bnext (bnext (bnext HBW7.out HBV8.out) HBW10.out) HBW12.out) HBW14.out)))
  obtain ⟨⟨y0, y1, y2, y3, y4, y5, y6, y7, y8, y9⟩, _⟩ := cv_reads (Bx.row (HX8.out.next (bnext (bnext HBW10.out HBW12.out) HBW14.out)))
  go_wp2_with fail
  (with_reducible refine (HSB.out _ _ _ (Bx.att (HY5.out.next (bnext (bnext (bnext (bnext HBW7.out HBV8.out) HBW10.out) HBW12.out) HBW14.out))) (Bx.att (HX8.out.next (bnext (bnext HBW10.out HBW12.out) HBW14.out)))).mono ?_); rintro e v15 ⟨rfl, hbl⟩
  clear x0 x1 x2 x3 x4 x5 x6 x7 x8 x9 y0 y1 y2 y3 y4 y5 y6 y7 y8 y9
  have HBW16 := Lib.hid (hbl)
  clear hbl
  go_wp2_with fail
  (with_reducible refine (HAL.out _ (bnext (bnext (bnext (bnext (bnext (bnext (bnext (bnext (bnext (bnext HBW2.out HBWa.out) HBWb.out) HBW4.out) HBV5.out) HBW7.out) HBV8.out) HBW10.out) HBW12.out) HBW14.out) HBW16.out)).mono ?_); rintro e v17 ⟨rfl, hbz⟩
  have HBW18 := Lib.hid (hbz)
  clear hbz
  have HE := Lib.hid (bnext (bnext (bnext (bnext (bnext (bnext (bnext (bnext (bnext (bnext (bnext HBW2.out HBWa.out) HBWb.out) HBW4.out) HBV5.out) HBW7.out) HBV8.out) HBW10.out) HBW12.out) HBW14.out) HBW16.out) HBW18.out)
  go_wp2_with fail
  go_ret
  exact ⟨rfl, HE.out⟩
end Go.Proofs.YtjjdaelddicokaaDoor
