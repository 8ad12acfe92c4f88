/- The writer of messages. Conditions: those that each theorem names. -/
import Derived.Test.YtfibaopngpfmjaaGreatDoorRzD2
import Derived.Test.YtfibaopngpfmjaaGreatDoorRzB5
import Derived.Test.YtfibaopngpfmjaaGreatDoorRzB4
set_option linter.unusedVariables false
set_option linter.unusedSimpArgs false
set_option maxRecDepth 100000
set_option maxHeartbeats 8000000
namespace Go.Proofs.YtfibaopngpfmjaaGreatDoor
open Go.RowKit Go.Proofs
theorem pt_txt (t : List UInt8) (w : World) (h : t.length ≤ 65535) : Calls Tryz.prog 227 #[.string (T t)] w fun e w' => e = .returned (.tuple #[.string (T (txt t)), .int .i64 0]) ∧ Below w.heap.size w w' := by
 refine (pt_any (T t) w (by rw [T_size]; omega)).mono fun e w' h2 => ?_
 unfold PtSays at h2
 rw [show (T t).data.toList = t from by simp [T]] at h2
 unfold Oct.ptS Oct.ptE at h2
 rw [if_neg (by omega), if_neg (by omega)] at h2
 exact h2
theorem wtext_any (g : Nat) (s t : List UInt8) (w : World) (h : WrRow w g s) (hl : s.length ≤ 800000) (ht : t.length ≤ 10000) :
  Calls Tryz.prog 188 #[.pointer (some ⟨g, 0, none⟩), .string (T t)] w fun e w' => e = .returned (.tuple #[]) ∧ WrRow w' g (s ++ txt t) ∧ w.grownBy w' (some g) := by
 have HP := lh (pt_txt t w (by omega))
 have HA := lh (fun (W : World) (h : WrRow W g s) => wadd_any g s (txt t) W h (by unfold txt; rw [List.length_append, Oct.le_length]; omega))
 have HS := lh h
 clear h hl ht
 generalize txt t = p at *
 go_enter Tryz.func188, Tryz.ntmps188
 go_wp2_with fail
 (with_reducible refine HP.out.mono ?_); rintro e w1 ⟨rfl, b1⟩
 have HS1 := lh (HS.out.next b1)
 have HG1 := lh (below_grownBy b1 (some g))
 clear b1
 go_wp2_with fail
 have hs1 := HS1.out
 (with_reducible refine (HA.out _ hs1).mono ?_); rintro e w2 ⟨rfl, hs2, g2⟩
 have HS2 := lh hs2
 have HG2 := lh (HG1.out.trans g2)
 clear hs2 g2 hs1
 go_wp2_with fail
 first | go_end0 | refine bodyPost_ret (results_none rfl _ _ _) rfl ?_
 exact ⟨rfl, HS2.out, HG2.out⟩
theorem wdata_any (g : Nat) (s t : List UInt8) (k : Nat) (w : World) (h : WrRow w g s) (hl : s.length ≤ 800000) (ht : t.length ≤ 20000) (hk : 1 ≤ k) (hk2 : k ≤ 8) (hf : t.length < 256 ^ k) :
  Calls Tryz.prog 193 #[.pointer (some ⟨g, 0, none⟩), .string (T t), .int .i64 (k : Int)] w fun e w' => e = .returned (.tuple #[]) ∧ WrRow w' g (s ++ (Oct.le k t.length ++ t)) ∧ w.grownBy w' (some g) := by
 have hf2 : ((t.length : Nat) : Int) < (256 : Int) ^ k := by
  have := Int.ofNat_lt.2 hf
  simpa using this
 have HN := lh (fun (W : World) (h : WrRow W g s) => show Calls Tryz.prog 126 #[.pointer (some ⟨g, 0, none⟩), .int .i64 (t.length : Int), .int .i64 (k : Int)] W fun e w' => e = .returned (.tuple #[]) ∧ WrRow w' g (s ++ Oct.le k t.length) ∧ W.grownBy w' (some g) from by
  have := wnum_any g s (t.length : Int) k W h (by omega) hk hk2 (by omega) hf2
  rw [Int.toNat_natCast] at this
  exact this)
 have HA := lh (fun (W : World) (h : WrRow W g (s ++ Oct.le k t.length)) => wadd_any g (s ++ Oct.le k t.length) t W h (by rw [List.length_append, Oct.le_length]; omega))
 have HS := lh h
 have hsz : (T t).size = t.length := T_size t
 rw [← List.append_assoc]
 clear h hl ht hf hf2 hk hk2
 generalize s ++ Oct.le k t.length = p at *
 generalize (k : Int) = kk at *
 go_enter Tryz.func193, Tryz.ntmps193
 go_wp2_with fail
 have hs := HS.out
 (with_reducible refine (HN.out _ hs).mono ?_); rintro e w1 ⟨rfl, hs1, g1⟩
 have HS1 := lh hs1
 have HG1 := lh g1
 clear hs hs1 g1
 go_wp2_with fail
 have hs1 := HS1.out
 (with_reducible refine (HA.out _ hs1).mono ?_); rintro e w2 ⟨rfl, hs2, g2⟩
 have HS2 := lh hs2
 have HG2 := lh (HG1.out.trans g2)
 clear hs2 g2 hs1
 go_wp2_with fail
 first | go_end0 | refine bodyPost_ret (results_none rfl _ _ _) rfl ?_
 exact ⟨rfl, HS2.out, HG2.out⟩
theorem txt_len (t : List UInt8) : (txt t).length = t.length + 2 := by unfold txt; rw [List.length_append, Oct.le_length]; omega
theorem take_flat {A B : Type} (l : List A) (f : A → List B) (j : Nat) (h : j < l.length) : (l.take (j + 1)).flatMap f = (l.take j).flatMap f ++ f l[j] := by
 rw [List.take_succ_eq_append_getElem h, List.flatMap_append]
 simp
theorem wnames_any (g : Nat) (s : List UInt8) (v : Value) (ns : List (List UInt8)) (w : World) (h : WrRow w g s) (hl : s.length ≤ 700000) (hn : ns.length ≤ 16 ∧ ∀ s ∈ ns, s.length ≤ 1000) (hv : Txs w v ns) (hg : ∃ w0, Txs w0 v ns ∧ w0.heap.size ≤ g) :
  Calls Tryz.prog 191 #[.pointer (some ⟨g, 0, none⟩), v] w fun e w' => e = .returned (.tuple #[]) ∧ WrRow w' g (s ++ (Oct.le 2 ns.length ++ ns.flatMap txt)) ∧ w.grownBy w' (some g) := by
 have HN := lh (fun (W : World) (h : WrRow W g s) => show Calls Tryz.prog 126 #[.pointer (some ⟨g, 0, none⟩), .int .i64 (ns.length : Int), .int .i64 2] W fun e w' => e = .returned (.tuple #[]) ∧ WrRow w' g (s ++ Oct.le 2 ns.length) ∧ W.grownBy w' (some g) from by
  have := wnum_any g s (ns.length : Int) 2 W h (by omega) (by omega) (by omega) (by omega) (by omega)
  rw [Int.toNat_natCast] at this
  exact this)
 have HTX := lh (fun (p t : List UInt8) (W : World) (h : WrRow W g p) (hp : p.length ≤ 800000) (ht : t.length ≤ 1000) => wtext_any g p t W h hp (by omega))
 have HNL := lh (fun j (hj : j < ns.length) => hn.2 ns[j] (List.getElem_mem hj))
 have h16 := hn.1
 have HS := lh h
 obtain ⟨ao, cap, rfl, hc, hnn, hcell⟩ := hv
 have HCE := lh (fun (W : World) (hgr : w.grownBy W (some g)) j (hj : j < ns.length) => show ∃ b off, ao = some ⟨b, off, none⟩ ∧ W.cell? ⟨b, off + j, none⟩ = some (.string (T ns[j])) from by
  obtain ⟨b, off, e, hlt, c0⟩ := hcell j hj
  subst e
  have hb : b ≠ g := by
   obtain ⟨w0, ⟨a2, c2, e2, _, _, hc2⟩, hle⟩ := hg
   cases e2
   obtain ⟨b3, o3, e3, hlt3, _⟩ := hc2 j hj
   cases e3
   omega
  refine ⟨b, off, rfl, ?_⟩
  rw [← c0]
  simp only [World.cell?]
  rw [hgr.block b hlt (fun e => hb (Option.some.inj e))])
 have hpl : (s ++ Oct.le 2 ns.length).length ≤ 700002 := by rw [List.length_append, Oct.le_length]; omega
 rw [← List.append_assoc]
 clear h hl hn hcell hc hnn hg
 generalize s ++ Oct.le 2 ns.length = p at *
 go_enter Tryz.func191, Tryz.ntmps191
 go_wp2_with fail
 have hs := HS.out
 (with_reducible refine (HN.out _ hs).mono ?_); rintro e w1 ⟨rfl, hs1, g1⟩
 have HS1 := lh hs1
 have HG1 := lh g1
 clear hs hs1 g1
 go_wp2_with fail
 go_loopg [12] ns.length (fun k i W => ∃ j : Nat, j ≤ ns.length ∧ i = .int .i64 (j : Int) ∧ (WrRow W g (p ++ (ns.take j).flatMap txt) ∧ w.grownBy W (some g) ∧ ((ns.take j).flatMap txt).length ≤ 1002 * j) ∧ k = ns.length - j)
 case atStart => exact ⟨0, by omega, rfl, ⟨by simpa using HS1.out, HG1.out, by simp⟩, rfl⟩
 case round =>
  obtain ⟨j, hj, rfl, ⟨hst, hgr, hlen⟩, hk⟩ := hrel
  have HS2 := lh hst
  have HG2 := lh hgr
  have HK := lh hk
  clear hst hgr hk HS1 HG1
  by_cases hlt : j < ns.length
  ·have hki : (j : Int) < ns.length := by omega
   obtain ⟨b, off, rfl, cc⟩ := HCE.out _ HG2.out j hlt
   have hnl := HNL.out j hlt
   have e1 := take_flat ns txt j hlt
   have HE := lh (show (p ++ (ns.take j).flatMap txt) ++ txt ns[j] = p ++ (ns.take (j + 1)).flatMap txt from by rw [e1, List.append_assoc])
   have hlen2 : ((ns.take (j + 1)).flatMap txt).length ≤ 1002 * (j + 1) := by rw [e1, List.length_append, txt_len]; omega
   have hq : (p ++ (ns.take j).flatMap txt).length ≤ 800000 := by rw [List.length_append]; omega
   have HLN := lh hlen2
   clear e1 hlen hlen2 HNL HCE
   generalize p ++ (ns.take j).flatMap txt = q at *
   generalize ns[j] = t at *
   go_wp2_with fail
   have hs2 := HS2.out
   (with_reducible refine (HTX.out _ _ _ hs2 hq hnl).mono ?_); rintro e w3 ⟨rfl, hs3, g3⟩
   rw [HE.out] at hs3
   have HS3 := lh hs3
   have HG3 := lh (HG2.out.trans g3)
   clear hs2 hs3 g3 cc
   go_wp2_with fail
   have hk := HK.out
   go_roundg (ns.length - (j + 1))
   case measure => omega
   case rel => exact ⟨j + 1, by omega, by go_num, ⟨HS3.out, HG3.out, HLN.out⟩, rfl⟩
  ·obtain rfl : j = ns.length := by omega
   have HS3 := lh (show WrRow wr g (p ++ ns.flatMap txt) from by have := HS2.out; rw [List.take_length] at this; exact this)
   clear HS2 hlen
   go_wp2_with fail
   first | go_end0 | refine bodyPost_ret (results_none rfl _ _ _) rfl ?_
   exact ⟨rfl, HS3.out, HG2.out⟩
/-- The numbers of a valid description fit. -/
theorem dn_ok (m : Mg) (h : DirOk m) : ∀ j (hj : j < (dnums m).length), (1 ≤ (dnums m)[j].2.1 ∧ (dnums m)[j].2.1 ≤ 8) ∧ -1 ≤ (dnums m)[j].1 ∧ (dnums m)[j].1 + 1 < (256 : Int) ^ (dnums m)[j].2.1 := by
 intro j hj
 have h1 := h.1 _ (List.getElem_mem hj)
 rw [dnums_len] at hj
 have : j = 0 ∨ j = 1 ∨ j = 2 ∨ j = 3 ∨ j = 4 ∨ j = 5 ∨ j = 6 ∨ j = 7 ∨ j = 8 := by omega
 rcases this with rfl | rfl | rfl | rfl | rfl | rfl | rfl | rfl | rfl
 all_goals (simp [dnums] at h1 ⊢; omega)
theorem knum_len (x : Int × Nat × Int) : (knum x).length = x.2.1 := by
 unfold knum
 split
 ·simp
 ·rw [Oct.le_length]
theorem put1_any (n : Int) (k : Nat) (z : Int) (w : World) (hk : 1 ≤ k ∧ k ≤ 8) (h0 : -1 ≤ n) (hf : n + 1 < (256 : Int) ^ k) : Calls Tryz.prog 250 #[.agg #[.int .i64 n, .int .i64 (k : Int), .int .i64 z]] w fun e w' => e = .returned (.string (T (knum (n, k, z)))) ∧ Below w.heap.size w w' := by
 have HB := lh (alloc_below w (.cells #[.int .i64 n, .int .i64 (k : Int), .int .i64 z] 250))
 have H1 := lh (heap_alloc_new w (.cells #[.int .i64 n, .int .i64 (k : Int), .int .i64 z] 250))
 by_cases h1 : n = -1
 ·subst h1
  have HR := lh (fun W => show Calls Tryz.prog 108 #[.string (T [255]), .int .i64 (k : Int)] W fun e w' => e = .returned (.string (T (List.replicate k 255))) ∧ Below W.heap.size W w' from by
   have := strings_Repeat (T [255]) k W (by omega) (by rw [T_size]; simp; omega)
   have e1 : (T [255]).data.toList = List.replicate 1 255 := rfl
   rw [e1, Lib.repeatL_replicate, Nat.mul_one] at this
   exact this)
  rw [show knum (-1, k, z) = List.replicate k 255 from by simp [knum]]
  clear hk h0 hf
  generalize (k : Int) = kk at *
  go_enter Tryz.func250, Tryz.ntmps250
  go_upto_region 1 with fail
  generalize World.alloc _ _ = w1 at *
  have c0 : w1.cell? ⟨w.heap.size, 0, none⟩ = some (.int .i64 (-1)) := by rw [Lib.cell_of_heap H1.out]; rfl
  have c1 : w1.cell? ⟨w.heap.size, 1, none⟩ = some (.int .i64 kk) := by rw [Lib.cell_of_heap H1.out]; rfl
  go_wp2_with fail
  (with_reducible refine (HR.out _).mono ?_); rintro e w2 ⟨rfl, b2⟩
  have HB2 := lh (bnext HB.out b2)
  clear b2
  go_wp2_with fail
  go_ret
  exact ⟨rfl, HB2.out⟩
 ·have HR := lh (fun W => put_num n k W hk.1 hk.2 (by omega) (by omega))
  rw [show knum (n, k, z) = Oct.le k n.toNat from by simp [knum, h1]]
  have k1 : (n == -1) = false := by simp [h1]
  clear hk h0 hf h1
  generalize Oct.le k n.toNat = p at *
  generalize (k : Int) = kk at *
  go_enter Tryz.func250, Tryz.ntmps250
  go_upto_region 1 with fail
  generalize World.alloc _ _ = w1 at *
  have c0 : w1.cell? ⟨w.heap.size, 0, none⟩ = some (.int .i64 n) := by rw [Lib.cell_of_heap H1.out]; rfl
  have c1 : w1.cell? ⟨w.heap.size, 1, none⟩ = some (.int .i64 kk) := by rw [Lib.cell_of_heap H1.out]; rfl
  go_wp2_with fail
  (with_reducible refine (HR.out _).mono ?_); rintro e w2 ⟨rfl, b2⟩
  have HB2 := lh (bnext HB.out b2)
  clear b2
  go_wp2_with fail
  go_ret
  exact ⟨rfl, HB2.out⟩
theorem dtxts_len (m : Mg) (h : DirOk m) : ∀ j (hj : j < (dtxts m).length), (dtxts m)[j].length ≤ 64 := by
 obtain ⟨_, _, hn, hu, hg, hm⟩ := h
 have hsn : m.sn.length ≤ 64 := by
  rcases hn with h | h | h
  ·rw [h]; simp
  ·rw [h]; simp
  ·exact h.1.2.2.2
 intro j hj
 have hj4 : j < 4 := hj
 have : j = 0 ∨ j = 1 ∨ j = 2 ∨ j = 3 := by omega
 rcases this with rfl | rfl | rfl | rfl
 ·exact hsn
 ·exact hu
 ·exact hg
 ·exact hm
theorem sput_any (m : Mg) (hd : DirOk m) (w : World) : Calls Tryz.prog 230 #[.agg m.ds.toArray] w fun e w' => e = .returned (.tuple #[.string (T (dirb m)), .int .i64 0]) ∧ Below w.heap.size w w' := by
 have HB := lh (alloc_below w (.cells m.ds.toArray 46))
 have H1 := lh (heap_alloc_new w (.cells m.ds.toArray 46))
 have HC := lh (fun (W : World) (h : W.heap[w.heap.size]? = some (.cells m.ds.toArray 46)) => (ds_cells h).2.2)
 have htl := dtxts_len m hd
 have HCK := lh (fun W => show Calls Tryz.prog 145 #[.agg m.ds.toArray] W fun e w' => e = .returned (.int .i64 0) ∧ Below W.heap.size W w' from
  (dcheck_any m (by have := htl 0 (by simp [dtxts]); simp [dtxts] at this; omega) W).mono fun e w' h => by
   obtain ⟨k, h1, h2, h3⟩ := h
   rw [h2.2 hd] at h1
   exact ⟨h1, h3⟩)
 have HN := lh (fun W => numbers_any m W)
 have hok := dn_ok m hd
 have HP1 := lh (fun j (hj : j < (dnums m).length) W => put1_any (dnums m)[j].1 (dnums m)[j].2.1 (dnums m)[j].2.2 W (hok j hj).1 (hok j hj).2.1 (hok j hj).2.2)
 have HKL := lh (fun j (hj : j < (dnums m).length) => show (knum (dnums m)[j]).length ≤ 8 from by rw [knum_len]; exact (hok j hj).1.2)
 have HPT := lh (fun j (hj : j < (dtxts m).length) W => pt_txt (dtxts m)[j] W (by have := htl j hj; omega))
 have HTL := lh htl
 have hlen := dnums_len m
 have HD : RowKit.Hid (dirb m = Oct.le 2 ((dnums m).flatMap knum ++ (dtxts m).flatMap txt).length ++ ((dnums m).flatMap knum ++ (dtxts m).flatMap txt)) := lh rfl
 have HTX := lh (show ∀ (W : World) (b : Nat), W.heap[b]? = some (.cells #[.string (T m.sn), .string (T m.su), .string (T m.sg), .string (T m.smu)] 9) → ∀ j (h : j < (dtxts m).length), W.cell? ⟨b, j, none⟩ = some (.string (T (dtxts m)[j])) from fun W b h j hj => by
  have hj4 : j < 4 := hj
  have : j = 0 ∨ j = 1 ∨ j = 2 ∨ j = 3 := by omega
  rcases this with rfl | rfl | rfl | rfl <;> (rw [Lib.cell_of_heap h]; rfl))
 have hl4 : (dtxts m).length = 4 := rfl
 have HPN := lh (fun (n : Nat) (W : World) (h : n < 65536) => show Calls Tryz.prog 128 #[.int .i64 (n : Int), .int .i64 2] W fun e w' => e = .returned (.tuple #[.string (T (Oct.le 2 n)), .int .i64 0]) ∧ Below W.heap.size W w' from by
  have := put_num n 2 W (by omega) (by omega) (by omega) (by omega)
  rw [Int.toNat_natCast] at this
  exact this)
 have HU := lh (Tryz.underlying46)
 have HSZ : RowKit.Hid ((Tryz.prog.info? 46).map (·.size) = some m.ds.toArray.size) := lh (by show _ = some 13; kernel_rfl)
 clear hd hok htl
 unfold NumsAt at HN
 generalize dirb m = DB at *
 generalize dtxts m = tx at *
 generalize dnums m = nu at *
 generalize m.ds = ds at *
 generalize m.sn = sn at *
 generalize m.su = su at *
 generalize m.sg = sg at *
 generalize m.smu = smu at *
 go_enter Tryz.func230, Tryz.ntmps230
 go_upto_region 1 with fail
 generalize World.alloc _ _ = w1 at *
 go_wp2_with (refine wpList_load_row rfl 46 _ rfl w.heap.size rfl 46 ds.toArray (0, 0) _ H1.out HU.out rfl HSZ.out ?_)
 (with_reducible refine (HCK.out _).mono ?_); rintro e w2 ⟨rfl, b2⟩
 have H2 := lh ((b2.block _ (row_ltP H1.out)).trans H1.out)
 have HB2 := lh (bnext HB.out b2)
 clear b2 H1 HB HCK
 go_wp2_with (refine wpList_load_row rfl 46 _ rfl w.heap.size rfl 46 ds.toArray (0, 0) _ H2.out HU.out rfl HSZ.out ?_)
 (with_reducible refine (HN.out _).mono ?_); rintro e w3 ⟨v, rfl, ⟨b, rfl, hb, hcell⟩, b3⟩
 have H3 := lh ((b3.block _ (row_ltP H2.out)).trans H2.out)
 have HB3 := lh (bnext HB2.out b3)
 have HNC := lh hcell
 clear b3 hcell H2 HB2 HN
 go_wp2_with fail
 go_loopg [5, 22] 9 (fun k s i W => ∃ j : Nat, j ≤ 9 ∧ s = .string (T ((nu.take j).flatMap knum)) ∧ i = .int .i64 (j : Int) ∧ (W.heap[w.heap.size]? = some (.cells ds.toArray 46) ∧ Below w.heap.size w W ∧ Below w3.heap.size w3 W ∧ ((nu.take j).flatMap knum).length ≤ 8 * j) ∧ k = 9 - j)
 case atStart => exact ⟨0, by omega, rfl, rfl, ⟨H3.out, HB3.out, Below.refl _ _, by simp⟩, rfl⟩
 case round =>
  obtain ⟨j, hj, rfl, rfl, ⟨hst, hbb, hb2, hle⟩, hk⟩ := hrel
  have H4 := lh hst
  have HB4 := lh hbb
  have HB5 := lh hb2
  have HK := lh hk
  clear hst hbb hb2 hk H3 HB3
  by_cases hlt : j < 9
  ·have hki : (j : Int) < 9 := by omega
   have hjl : j < nu.length := by omega
   obtain ⟨d0, d1, d2⟩ := HNC.out j hjl
   have d0 := cell_below HB5.out hb d0
   have d1 := cell_below HB5.out hb d1
   have d2 := cell_below HB5.out hb d2
   have HPJ := lh (fun W => HP1.out j hjl W)
   have e1 := take_flat nu knum j hjl
   have hkl := HKL.out j hjl
   have HE := lh (show (nu.take j).flatMap knum ++ knum (nu[j].1, nu[j].2.1, nu[j].2.2) = (nu.take (j + 1)).flatMap knum from e1.symm)
   have hlen2 : ((nu.take (j + 1)).flatMap knum).length ≤ 8 * (j + 1) := by rw [e1, List.length_append]; omega
   have HLN := lh hlen2
   have hcat : ¬ 9223372036854775807 < ((nu.take j).flatMap knum).length + (knum (nu[j].1, nu[j].2.1, nu[j].2.2)).length := by
    show ¬ _ < _ + (knum nu[j]).length
    omega
   clear e1 hkl hlen2 hle HNC HP1 HKL HPT HTX
   generalize (nu.take j).flatMap knum = q at *
   generalize nu[j].1 = x at *
   generalize nu[j].2.1 = y at *
   generalize nu[j].2.2 = z at *
   generalize knum (x, y, z) = p at *
   go_upto_region 8 with fail
   have ba := alloc_below wr (.cells #[.int .i64 x, .int .i64 (y : Int), .int .i64 z] 250)
   have H6 := lh ((ba.block _ (row_ltP H4.out)).trans H4.out)
   have HB6 := lh (bnext HB4.out ba)
   have HB7 := lh (bnext HB5.out ba)
   clear ba
   go_wp2_with fail
   (with_reducible refine (HPJ.out _).mono ?_); rintro e w7 ⟨rfl, b7⟩
   have H8 := lh ((b7.block _ (row_ltP H6.out)).trans H6.out)
   have HB8 := lh (bnext HB6.out b7)
   have HB9 := lh (bnext HB7.out b7)
   clear b7
   go_wp2_with fail
   have hk := HK.out
   go_roundg (9 - (j + 1))
   case measure => omega
   case rel => exact ⟨j + 1, by omega, by rw [← HE.out, ← T_append], by go_num, ⟨H8.out, HB8.out, HB9.out, HLN.out⟩, rfl⟩
  ·obtain rfl : j = 9 := by omega
   have hP0 : (nu.take 9).flatMap knum = nu.flatMap knum := by rw [List.take_of_length_le (by omega)]
   rw [hP0] at hle ⊢
   clear hP0 HK HNC HP1 HKL HB5
   generalize nu.flatMap knum = P0 at *
   obtain ⟨c9, c10, c11, c12⟩ := HC.out _ H4.out
   go_wp2_with fail
   have hz := heap_alloc_new wr (.cells #[.string (T sn), .string (T su), .string (T sg), .string (T smu)] 9)
   have ba := alloc_below wr (.cells #[.string (T sn), .string (T su), .string (T sg), .string (T smu)] 9)
   have HB6 := lh (bnext HB4.out ba)
   have HCE := lh (HTX.out _ _ hz)
   have hb4 : wr.heap.size < (wr.alloc (.cells #[.string (T sn), .string (T su), .string (T sg), .string (T smu)] 9)).heap.size := row_ltP hz
   clear hz ba HTX c9 c10 c11 c12 H4 HB4 HC
   generalize World.alloc wr _ = w5 at *
   generalize wr.heap.size = b4 at *
   go_loopg [5, 41] 4 (fun k s i W => ∃ j : Nat, j ≤ 4 ∧ s = .string (T (P0 ++ (tx.take j).flatMap txt)) ∧ i = .int .i64 (j : Int) ∧ (Below w.heap.size w W ∧ Below w5.heap.size w5 W ∧ ((tx.take j).flatMap txt).length ≤ 66 * j) ∧ k = 4 - j)
   case atStart => exact ⟨0, by omega, by simp, rfl, ⟨HB6.out, Below.refl _ _, by simp⟩, rfl⟩
   case round =>
    obtain ⟨j, hj, rfl, rfl, ⟨hbb, hb2, hle2⟩, hk⟩ := hrel
    have HB7 := lh hbb
    have HB8 := lh hb2
    have HK := lh hk
    clear hbb hb2 hk HB6
    by_cases hlt : j < 4
    ·have hki : (j : Int) < 4 := by omega
     have hjl : j < tx.length := by omega
     have d0 := cell_below HB8.out hb4 (HCE.out j hjl)
     have HPJ := lh (fun W => HPT.out j hjl W)
     have e1 := take_flat tx txt j hjl
     have htl := HTL.out j hjl
     have HE := lh (show (P0 ++ (tx.take j).flatMap txt) ++ txt tx[j] = P0 ++ (tx.take (j + 1)).flatMap txt from by rw [e1, List.append_assoc])
     have hlen2 : ((tx.take (j + 1)).flatMap txt).length ≤ 66 * (j + 1) := by rw [e1, List.length_append, txt_len]; omega
     have HLN := lh hlen2
     have hcat : ¬ 9223372036854775807 < (P0 ++ (tx.take j).flatMap txt).length + (txt tx[j]).length := by
      rw [List.length_append, txt_len]; omega
     clear e1 htl hlen2 hle2 HCE HPT HTL hle
     generalize P0 ++ (tx.take j).flatMap txt = q at *
     generalize tx[j] = t at *
     generalize txt t = p at *
     go_wp2_with fail
     (with_reducible refine (HPJ.out _).mono ?_); rintro e w7 ⟨rfl, b7⟩
     have HB9 := lh (bnext HB7.out b7)
     have HB10 := lh (bnext HB8.out b7)
     clear b7
     go_wp2_with fail
     have hk := HK.out
     go_roundg (4 - (j + 1))
     case measure => omega
     case rel => exact ⟨j + 1, by omega, by rw [← HE.out, ← T_append], by go_num, ⟨HB9.out, HB10.out, HLN.out⟩, rfl⟩
    ·obtain rfl : j = 4 := by omega
     have hP1 : (tx.take 4).flatMap txt = tx.flatMap txt := by rw [List.take_of_length_le (by omega)]
     rw [hP1] at hle2 ⊢
     have hpl : (P0 ++ tx.flatMap txt).length ≤ 400 := by rw [List.length_append]; omega
     clear hP1 HK HCE HPT HTL hle hle2 HB8
     generalize P0 ++ tx.flatMap txt = P1 at *
     have HPN2 := lh (fun W => HPN.out P1.length W (by omega))
     have hsz : (T P1).size = P1.length := T_size P1
     have hll : (Oct.le 2 P1.length).length = 2 := Oct.le_length _ _
     have hcat : ¬ 9223372036854775807 < (Oct.le 2 P1.length).length + P1.length := by omega
     clear HPN
     generalize Oct.le 2 P1.length = LP at *
     go_wp2_with fail
     (with_reducible refine (HPN2.out _).mono ?_); rintro e w8 ⟨rfl, b8⟩
     have HB9 := lh (bnext HB7.out b8)
     clear b8
     go_wp2_with fail
     go_ret2
     exact ⟨by rw [HD.out, ← T_append]; rfl, HB9.out⟩
theorem wstat_any (g : Nat) (s : List UInt8) (m : Mg) (w : World) (h : WrRow w g s) (hl : s.length ≤ 700000) (hd : DirOk m) (hdl : (dirb m).length ≤ 20000) :
  Calls Tryz.prog 194 #[.pointer (some ⟨g, 0, none⟩), .agg m.ds.toArray] w fun e w' => e = .returned (.tuple #[]) ∧ WrRow w' g (s ++ (Oct.le 2 (dirb m).length ++ dirb m)) ∧ w.grownBy w' (some g) := by
 have HB := lh (alloc_below w (.cells m.ds.toArray 46))
 have H1 := lh (heap_alloc_new w (.cells m.ds.toArray 46))
 have HP := lh (fun W => sput_any m hd W)
 have HA := lh (fun (W : World) (h : WrRow W g s) => show Calls Tryz.prog 187 #[.pointer (some ⟨g, 0, none⟩), .string (T []), .int .i64 0] W fun e w' => e = .returned (.tuple #[]) ∧ WrRow w' g s ∧ W.grownBy w' (some g) from by
  have := wadd_any g s [] W h (by simp; omega)
  rw [List.append_nil] at this
  exact this)
 have HDA := lh (fun (W : World) (h : WrRow W g s) => show Calls Tryz.prog 193 #[.pointer (some ⟨g, 0, none⟩), .string (T (dirb m)), .int .i64 2] W fun e w' => e = .returned (.tuple #[]) ∧ WrRow w' g (s ++ (Oct.le 2 (dirb m).length ++ dirb m)) ∧ W.grownBy w' (some g) from wdata_any g s (dirb m) 2 W h (by omega) hdl (by omega) (by omega) (by omega))
 have HS := lh (h.next HB.out)
 have HU := lh (Tryz.underlying46)
 have HSZ : RowKit.Hid ((Tryz.prog.info? 46).map (·.size) = some m.ds.toArray.size) := lh (by show _ = some 13; kernel_rfl)
 clear h hl hd hdl
 generalize dirb m = DB at *
 generalize s ++ (Oct.le 2 DB.length ++ DB) = SE at *
 generalize m.ds = ds at *
 go_enter Tryz.func194, Tryz.ntmps194
 go_upto_region 1 with fail
 have HG0 := lh (below_grownBy HB.out (some g))
 generalize World.alloc _ _ = w1 at *
 go_wp2_with (refine wpList_load_row rfl 46 _ rfl w.heap.size rfl 46 ds.toArray (0, 0) _ H1.out HU.out rfl HSZ.out ?_)
 (with_reducible refine (HP.out _).mono ?_); rintro e w2 ⟨rfl, b2⟩
 have HS2 := lh (HS.out.next b2)
 have HG2 := lh (HG0.out.trans (below_grownBy b2 (some g)))
 clear b2
 go_wp2_with fail
 have hs := HS2.out
 (with_reducible refine (HA.out _ hs).mono ?_); rintro e w3 ⟨rfl, hs3, g3⟩
 have HS3 := lh hs3
 have HG3 := lh (HG2.out.trans g3)
 clear hs hs3 g3
 go_wp2_with fail
 have hs := HS3.out
 (with_reducible refine (HDA.out _ hs).mono ?_); rintro e w4 ⟨rfl, hs4, g4⟩
 have HS4 := lh hs4
 have HG4 := lh (HG3.out.trans g4)
 clear hs hs4 g4
 go_wp2_with fail
 first | go_end0 | refine bodyPost_ret (results_none rfl _ _ _) rfl ?_
 exact ⟨rfl, HS4.out, HG4.out⟩
theorem wfld_77 (g : Nat) (s : List UInt8) (m : Mg) (ns : List (List UInt8)) (w : World) (h : WrRow w g s) (hl : s.length ≤ 600000) (ho : 0 ≤ m.mode ∧ m.mode < 256) : Calls Tryz.prog 127 #[.pointer (some ⟨g, 0, none⟩), .agg m.cs.toArray, .int .u8 77] w fun e w' => e = .returned (.tuple #[]) ∧ WrRow w' g (s ++ Oct.le 1 m.mode.toNat) ∧ w.grownBy w' (some g) := by
 have HB := lh (alloc_below w (mgobj m))
 have H1 := lh (heap_alloc_new w (mgobj m))
 have HS := lh (h.next HB.out)
 have HNU := lh (fun (W : World) (h : WrRow W g s) => show Calls Tryz.prog 126 #[.pointer (some ⟨g, 0, none⟩), .int .i64 m.mode, .int .i64 1] W fun e w' => e = .returned (.tuple #[]) ∧ WrRow w' g (s ++ Oct.le 1 m.mode.toNat) ∧ W.grownBy w' (some g) from wnum_any g s m.mode 1 W h (by omega) (by omega) (by omega) ho.1 (by omega))
 have HC := lh (show ∀ W : World, W.heap[w.heap.size]? = some (mgobj m) → W.cell? ⟨w.heap.size, 16, none⟩ = some (.int .i64 m.mode) from fun W h => by rw [Lib.cell_of_heap h]; rfl)
 unfold mgobj at *
 clear h hl ho
 generalize s ++ Oct.le 1 m.mode.toNat = SE at *
 generalize m.cs = cs at *
 generalize m.mode = x at *
 go_enter Tryz.func127, Tryz.ntmps127
 go_upto_region 1 with fail
 have HG0 := lh (below_grownBy HB.out (some g))
 generalize World.alloc _ _ = w1 at *
 have c0 := HC.out _ H1.out
 go_wp2_with fail
 have hs1 := HS.out
 (with_reducible refine (HNU.out _ hs1).mono ?_); rintro e w2 ⟨rfl, hs2, g2⟩
 have HS2 := lh hs2
 have HG2 := lh (HG0.out.trans g2)
 clear hs2 g2 hs1
 go_wp2_with fail
 first | go_end0 | refine bodyPost_ret (results_none rfl _ _ _) rfl ?_
 exact ⟨rfl, HS2.out, HG2.out⟩
theorem wfld_78 (g : Nat) (s : List UInt8) (m : Mg) (ns : List (List UInt8)) (w : World) (h : WrRow w g s) (hl : s.length ≤ 600000) (ho : m.name.length ≤ 10000) : Calls Tryz.prog 127 #[.pointer (some ⟨g, 0, none⟩), .agg m.cs.toArray, .int .u8 78] w fun e w' => e = .returned (.tuple #[]) ∧ WrRow w' g (s ++ txt m.name) ∧ w.grownBy w' (some g) := by
 have HB := lh (alloc_below w (mgobj m))
 have H1 := lh (heap_alloc_new w (mgobj m))
 have HS := lh (h.next HB.out)
 have HNU := lh (fun (W : World) (h : WrRow W g s) => wtext_any g s m.name W h (by omega) ho)
 have HC := lh (show ∀ W : World, W.heap[w.heap.size]? = some (mgobj m) → W.cell? ⟨w.heap.size, 18, none⟩ = some (.string (T m.name)) from fun W h => by rw [Lib.cell_of_heap h]; rfl)
 unfold mgobj at *
 clear h hl ho
 generalize s ++ txt m.name = SE at *
 generalize m.cs = cs at *
 generalize m.name = x at *
 go_enter Tryz.func127, Tryz.ntmps127
 go_upto_region 1 with fail
 have HG0 := lh (below_grownBy HB.out (some g))
 generalize World.alloc _ _ = w1 at *
 have c0 := HC.out _ H1.out
 go_wp2_with fail
 have hs1 := HS.out
 (with_reducible refine (HNU.out _ hs1).mono ?_); rintro e w2 ⟨rfl, hs2, g2⟩
 have HS2 := lh hs2
 have HG2 := lh (HG0.out.trans g2)
 clear hs2 g2 hs1
 go_wp2_with fail
 first | go_end0 | refine bodyPost_ret (results_none rfl _ _ _) rfl ?_
 exact ⟨rfl, HS2.out, HG2.out⟩
theorem wfld_79 (g : Nat) (s : List UInt8) (m : Mg) (ns : List (List UInt8)) (w : World) (h : WrRow w g s) (hl : s.length ≤ 600000) (ho : 0 ≤ m.offset ∧ m.offset < 9223372036854775808) : Calls Tryz.prog 127 #[.pointer (some ⟨g, 0, none⟩), .agg m.cs.toArray, .int .u8 79] w fun e w' => e = .returned (.tuple #[]) ∧ WrRow w' g (s ++ Oct.le 8 m.offset.toNat) ∧ w.grownBy w' (some g) := by
 have HB := lh (alloc_below w (mgobj m))
 have H1 := lh (heap_alloc_new w (mgobj m))
 have HS := lh (h.next HB.out)
 have HNU := lh (fun (W : World) (h : WrRow W g s) => show Calls Tryz.prog 126 #[.pointer (some ⟨g, 0, none⟩), .int .i64 m.offset, .int .i64 8] W fun e w' => e = .returned (.tuple #[]) ∧ WrRow w' g (s ++ Oct.le 8 m.offset.toNat) ∧ W.grownBy w' (some g) from wnum_any g s m.offset 8 W h (by omega) (by omega) (by omega) ho.1 (by omega))
 have HC := lh (show ∀ W : World, W.heap[w.heap.size]? = some (mgobj m) → W.cell? ⟨w.heap.size, 19, none⟩ = some (.int .i64 m.offset) from fun W h => by rw [Lib.cell_of_heap h]; rfl)
 unfold mgobj at *
 clear h hl ho
 generalize s ++ Oct.le 8 m.offset.toNat = SE at *
 generalize m.cs = cs at *
 generalize m.offset = x at *
 go_enter Tryz.func127, Tryz.ntmps127
 go_upto_region 1 with fail
 have HG0 := lh (below_grownBy HB.out (some g))
 generalize World.alloc _ _ = w1 at *
 have c0 := HC.out _ H1.out
 go_wp2_with fail
 have hs1 := HS.out
 (with_reducible refine (HNU.out _ hs1).mono ?_); rintro e w2 ⟨rfl, hs2, g2⟩
 have HS2 := lh hs2
 have HG2 := lh (HG0.out.trans g2)
 clear hs2 g2 hs1
 go_wp2_with fail
 first | go_end0 | refine bodyPost_ret (results_none rfl _ _ _) rfl ?_
 exact ⟨rfl, HS2.out, HG2.out⟩
theorem wfld_83 (g : Nat) (s : List UInt8) (m : Mg) (ns : List (List UInt8)) (w : World) (h : WrRow w g s) (hl : s.length ≤ 600000) (ho : DirOk m) (hdl : (dirb m).length ≤ 20000) : Calls Tryz.prog 127 #[.pointer (some ⟨g, 0, none⟩), .agg m.cs.toArray, .int .u8 83] w fun e w' => e = .returned (.tuple #[]) ∧ WrRow w' g (s ++ (Oct.le 2 (dirb m).length ++ dirb m)) ∧ w.grownBy w' (some g) := by
 have HB := lh (alloc_below w (mgobj m))
 have H1 := lh (heap_alloc_new w (mgobj m))
 have HS := lh (h.next HB.out)
 have HNU := lh (fun (W : World) (h : WrRow W g s) => wstat_any g s m W h (by omega) ho hdl)
 have HC := lh (show ∀ W : World, W.heap[w.heap.size]? = some (mgobj m) → W.rangeAt w.heap.size 22 m.ds from fun W h => rng_ds h)
 have HU := lh (And.intro (Tryz.underlying46) (show (Tryz.prog.info? 46).map (·.size) = some m.ds.length from by show _ = some 13; kernel_rfl))
 unfold mgobj at *
 clear h hl ho hdl
 generalize s ++ (Oct.le 2 (dirb m).length ++ dirb m) = SE at *
 generalize m.cs = cs at *
 generalize m.ds = ds at *
 go_enter Tryz.func127, Tryz.ntmps127
 go_upto_region 1 with fail
 have HG0 := lh (below_grownBy HB.out (some g))
 generalize World.alloc _ _ = w1 at *
 have c0 := HC.out _ H1.out
 go_wp2_with (refine wpList_load_mid rfl 46 _ rfl w.heap.size 22 rfl ds _ (HC.out _ H1.out) HU.out.1 rfl HU.out.2 ?_)
 have hs1 := HS.out
 (with_reducible refine (HNU.out _ hs1).mono ?_); rintro e w2 ⟨rfl, hs2, g2⟩
 have HS2 := lh hs2
 have HG2 := lh (HG0.out.trans g2)
 clear hs2 g2 hs1
 go_wp2_with fail
 first | go_end0 | refine bodyPost_ret (results_none rfl _ _ _) rfl ?_
 exact ⟨rfl, HS2.out, HG2.out⟩
theorem wfld_97 (g : Nat) (s : List UInt8) (m : Mg) (ns : List (List UInt8)) (w : World) (h : WrRow w g s) (hl : s.length ≤ 600000) (ho : 0 ≤ m.authFid ∧ m.authFid < 4294967296) : Calls Tryz.prog 127 #[.pointer (some ⟨g, 0, none⟩), .agg m.cs.toArray, .int .u8 97] w fun e w' => e = .returned (.tuple #[]) ∧ WrRow w' g (s ++ Oct.le 4 m.authFid.toNat) ∧ w.grownBy w' (some g) := by
 have HB := lh (alloc_below w (mgobj m))
 have H1 := lh (heap_alloc_new w (mgobj m))
 have HS := lh (h.next HB.out)
 have HNU := lh (fun (W : World) (h : WrRow W g s) => show Calls Tryz.prog 126 #[.pointer (some ⟨g, 0, none⟩), .int .i64 m.authFid, .int .i64 4] W fun e w' => e = .returned (.tuple #[]) ∧ WrRow w' g (s ++ Oct.le 4 m.authFid.toNat) ∧ W.grownBy w' (some g) from wnum_any g s m.authFid 4 W h (by omega) (by omega) (by omega) ho.1 (by omega))
 have HC := lh (show ∀ W : World, W.heap[w.heap.size]? = some (mgobj m) → W.cell? ⟨w.heap.size, 4, none⟩ = some (.int .i64 m.authFid) from fun W h => by rw [Lib.cell_of_heap h]; rfl)
 unfold mgobj at *
 clear h hl ho
 generalize s ++ Oct.le 4 m.authFid.toNat = SE at *
 generalize m.cs = cs at *
 generalize m.authFid = x at *
 go_enter Tryz.func127, Tryz.ntmps127
 go_upto_region 1 with fail
 have HG0 := lh (below_grownBy HB.out (some g))
 generalize World.alloc _ _ = w1 at *
 have c0 := HC.out _ H1.out
 go_wp2_with fail
 have hs1 := HS.out
 (with_reducible refine (HNU.out _ hs1).mono ?_); rintro e w2 ⟨rfl, hs2, g2⟩
 have HS2 := lh hs2
 have HG2 := lh (HG0.out.trans g2)
 clear hs2 g2 hs1
 go_wp2_with fail
 first | go_end0 | refine bodyPost_ret (results_none rfl _ _ _) rfl ?_
 exact ⟨rfl, HS2.out, HG2.out⟩
theorem wfld_99 (g : Nat) (s : List UInt8) (m : Mg) (ns : List (List UInt8)) (w : World) (h : WrRow w g s) (hl : s.length ≤ 600000) (ho : 0 ≤ m.count ∧ m.count < 4294967296) : Calls Tryz.prog 127 #[.pointer (some ⟨g, 0, none⟩), .agg m.cs.toArray, .int .u8 99] w fun e w' => e = .returned (.tuple #[]) ∧ WrRow w' g (s ++ Oct.le 4 m.count.toNat) ∧ w.grownBy w' (some g) := by
 have HB := lh (alloc_below w (mgobj m))
 have H1 := lh (heap_alloc_new w (mgobj m))
 have HS := lh (h.next HB.out)
 have HNU := lh (fun (W : World) (h : WrRow W g s) => show Calls Tryz.prog 126 #[.pointer (some ⟨g, 0, none⟩), .int .i64 m.count, .int .i64 4] W fun e w' => e = .returned (.tuple #[]) ∧ WrRow w' g (s ++ Oct.le 4 m.count.toNat) ∧ W.grownBy w' (some g) from wnum_any g s m.count 4 W h (by omega) (by omega) (by omega) ho.1 (by omega))
 have HC := lh (show ∀ W : World, W.heap[w.heap.size]? = some (mgobj m) → W.cell? ⟨w.heap.size, 20, none⟩ = some (.int .i64 m.count) from fun W h => by rw [Lib.cell_of_heap h]; rfl)
 unfold mgobj at *
 clear h hl ho
 generalize s ++ Oct.le 4 m.count.toNat = SE at *
 generalize m.cs = cs at *
 generalize m.count = x at *
 go_enter Tryz.func127, Tryz.ntmps127
 go_upto_region 1 with fail
 have HG0 := lh (below_grownBy HB.out (some g))
 generalize World.alloc _ _ = w1 at *
 have c0 := HC.out _ H1.out
 go_wp2_with fail
 have hs1 := HS.out
 (with_reducible refine (HNU.out _ hs1).mono ?_); rintro e w2 ⟨rfl, hs2, g2⟩
 have HS2 := lh hs2
 have HG2 := lh (HG0.out.trans g2)
 clear hs2 g2 hs1
 go_wp2_with fail
 first | go_end0 | refine bodyPost_ret (results_none rfl _ _ _) rfl ?_
 exact ⟨rfl, HS2.out, HG2.out⟩
theorem wfld_100 (g : Nat) (s : List UInt8) (m : Mg) (ns : List (List UInt8)) (w : World) (h : WrRow w g s) (hl : s.length ≤ 600000) (ho : m.data.length ≤ 10000) : Calls Tryz.prog 127 #[.pointer (some ⟨g, 0, none⟩), .agg m.cs.toArray, .int .u8 100] w fun e w' => e = .returned (.tuple #[]) ∧ WrRow w' g (s ++ (Oct.le 4 m.data.length ++ m.data)) ∧ w.grownBy w' (some g) := by
 have HB := lh (alloc_below w (mgobj m))
 have H1 := lh (heap_alloc_new w (mgobj m))
 have HS := lh (h.next HB.out)
 have HNU := lh (fun (W : World) (h : WrRow W g s) => show Calls Tryz.prog 193 #[.pointer (some ⟨g, 0, none⟩), .string (T m.data), .int .i64 4] W fun e w' => e = .returned (.tuple #[]) ∧ WrRow w' g (s ++ (Oct.le 4 m.data.length ++ m.data)) ∧ W.grownBy w' (some g) from wdata_any g s m.data 4 W h (by omega) (by omega) (by omega) (by omega) (by omega))
 have HC := lh (show ∀ W : World, W.heap[w.heap.size]? = some (mgobj m) → W.cell? ⟨w.heap.size, 21, none⟩ = some (.string (T m.data)) from fun W h => by rw [Lib.cell_of_heap h]; rfl)
 unfold mgobj at *
 clear h hl ho
 generalize s ++ (Oct.le 4 m.data.length ++ m.data) = SE at *
 generalize m.cs = cs at *
 generalize m.data = x at *
 go_enter Tryz.func127, Tryz.ntmps127
 go_upto_region 1 with fail
 have HG0 := lh (below_grownBy HB.out (some g))
 generalize World.alloc _ _ = w1 at *
 have c0 := HC.out _ H1.out
 go_wp2_with fail
 have hs1 := HS.out
 (with_reducible refine (HNU.out _ hs1).mono ?_); rintro e w2 ⟨rfl, hs2, g2⟩
 have HS2 := lh hs2
 have HG2 := lh (HG0.out.trans g2)
 clear hs2 g2 hs1
 go_wp2_with fail
 first | go_end0 | refine bodyPost_ret (results_none rfl _ _ _) rfl ?_
 exact ⟨rfl, HS2.out, HG2.out⟩
theorem wfld_102 (g : Nat) (s : List UInt8) (m : Mg) (ns : List (List UInt8)) (w : World) (h : WrRow w g s) (hl : s.length ≤ 600000) (ho : 0 ≤ m.fid ∧ m.fid < 4294967296) : Calls Tryz.prog 127 #[.pointer (some ⟨g, 0, none⟩), .agg m.cs.toArray, .int .u8 102] w fun e w' => e = .returned (.tuple #[]) ∧ WrRow w' g (s ++ Oct.le 4 m.fid.toNat) ∧ w.grownBy w' (some g) := by
 have HB := lh (alloc_below w (mgobj m))
 have H1 := lh (heap_alloc_new w (mgobj m))
 have HS := lh (h.next HB.out)
 have HNU := lh (fun (W : World) (h : WrRow W g s) => show Calls Tryz.prog 126 #[.pointer (some ⟨g, 0, none⟩), .int .i64 m.fid, .int .i64 4] W fun e w' => e = .returned (.tuple #[]) ∧ WrRow w' g (s ++ Oct.le 4 m.fid.toNat) ∧ W.grownBy w' (some g) from wnum_any g s m.fid 4 W h (by omega) (by omega) (by omega) ho.1 (by omega))
 have HC := lh (show ∀ W : World, W.heap[w.heap.size]? = some (mgobj m) → W.cell? ⟨w.heap.size, 2, none⟩ = some (.int .i64 m.fid) from fun W h => by rw [Lib.cell_of_heap h]; rfl)
 unfold mgobj at *
 clear h hl ho
 generalize s ++ Oct.le 4 m.fid.toNat = SE at *
 generalize m.cs = cs at *
 generalize m.fid = x at *
 go_enter Tryz.func127, Tryz.ntmps127
 go_upto_region 1 with fail
 have HG0 := lh (below_grownBy HB.out (some g))
 generalize World.alloc _ _ = w1 at *
 have c0 := HC.out _ H1.out
 go_wp2_with fail
 have hs1 := HS.out
 (with_reducible refine (HNU.out _ hs1).mono ?_); rintro e w2 ⟨rfl, hs2, g2⟩
 have HS2 := lh hs2
 have HG2 := lh (HG0.out.trans g2)
 clear hs2 g2 hs1
 go_wp2_with fail
 first | go_end0 | refine bodyPost_ret (results_none rfl _ _ _) rfl ?_
 exact ⟨rfl, HS2.out, HG2.out⟩
theorem wfld_108 (g : Nat) (s : List UInt8) (m : Mg) (ns : List (List UInt8)) (w : World) (h : WrRow w g s) (hl : s.length ≤ 600000) (ho : 0 ≤ m.lease ∧ m.lease < 256) : Calls Tryz.prog 127 #[.pointer (some ⟨g, 0, none⟩), .agg m.cs.toArray, .int .u8 108] w fun e w' => e = .returned (.tuple #[]) ∧ WrRow w' g (s ++ Oct.le 1 m.lease.toNat) ∧ w.grownBy w' (some g) := by
 have HB := lh (alloc_below w (mgobj m))
 have H1 := lh (heap_alloc_new w (mgobj m))
 have HS := lh (h.next HB.out)
 have HNU := lh (fun (W : World) (h : WrRow W g s) => show Calls Tryz.prog 126 #[.pointer (some ⟨g, 0, none⟩), .int .i64 m.lease, .int .i64 1] W fun e w' => e = .returned (.tuple #[]) ∧ WrRow w' g (s ++ Oct.le 1 m.lease.toNat) ∧ W.grownBy w' (some g) from wnum_any g s m.lease 1 W h (by omega) (by omega) (by omega) ho.1 (by omega))
 have HC := lh (show ∀ W : World, W.heap[w.heap.size]? = some (mgobj m) → W.cell? ⟨w.heap.size, 36, none⟩ = some (.int .i64 m.lease) from fun W h => by rw [Lib.cell_of_heap h]; rfl)
 unfold mgobj at *
 clear h hl ho
 generalize s ++ Oct.le 1 m.lease.toNat = SE at *
 generalize m.cs = cs at *
 generalize m.lease = x at *
 go_enter Tryz.func127, Tryz.ntmps127
 go_upto_region 1 with fail
 have HG0 := lh (below_grownBy HB.out (some g))
 generalize World.alloc _ _ = w1 at *
 have c0 := HC.out _ H1.out
 go_wp2_with fail
 have hs1 := HS.out
 (with_reducible refine (HNU.out _ hs1).mono ?_); rintro e w2 ⟨rfl, hs2, g2⟩
 have HS2 := lh hs2
 have HG2 := lh (HG0.out.trans g2)
 clear hs2 g2 hs1
 go_wp2_with fail
 first | go_end0 | refine bodyPost_ret (results_none rfl _ _ _) rfl ?_
 exact ⟨rfl, HS2.out, HG2.out⟩
theorem wfld_109 (g : Nat) (s : List UInt8) (m : Mg) (ns : List (List UInt8)) (w : World) (h : WrRow w g s) (hl : s.length ≤ 600000) (ho : 0 ≤ m.msize ∧ m.msize < 4294967296) : Calls Tryz.prog 127 #[.pointer (some ⟨g, 0, none⟩), .agg m.cs.toArray, .int .u8 109] w fun e w' => e = .returned (.tuple #[]) ∧ WrRow w' g (s ++ Oct.le 4 m.msize.toNat) ∧ w.grownBy w' (some g) := by
 have HB := lh (alloc_below w (mgobj m))
 have H1 := lh (heap_alloc_new w (mgobj m))
 have HS := lh (h.next HB.out)
 have HNU := lh (fun (W : World) (h : WrRow W g s) => show Calls Tryz.prog 126 #[.pointer (some ⟨g, 0, none⟩), .int .i64 m.msize, .int .i64 4] W fun e w' => e = .returned (.tuple #[]) ∧ WrRow w' g (s ++ Oct.le 4 m.msize.toNat) ∧ W.grownBy w' (some g) from wnum_any g s m.msize 4 W h (by omega) (by omega) (by omega) ho.1 (by omega))
 have HC := lh (show ∀ W : World, W.heap[w.heap.size]? = some (mgobj m) → W.cell? ⟨w.heap.size, 6, none⟩ = some (.int .i64 m.msize) from fun W h => by rw [Lib.cell_of_heap h]; rfl)
 unfold mgobj at *
 clear h hl ho
 generalize s ++ Oct.le 4 m.msize.toNat = SE at *
 generalize m.cs = cs at *
 generalize m.msize = x at *
 go_enter Tryz.func127, Tryz.ntmps127
 go_upto_region 1 with fail
 have HG0 := lh (below_grownBy HB.out (some g))
 generalize World.alloc _ _ = w1 at *
 have c0 := HC.out _ H1.out
 go_wp2_with fail
 have hs1 := HS.out
 (with_reducible refine (HNU.out _ hs1).mono ?_); rintro e w2 ⟨rfl, hs2, g2⟩
 have HS2 := lh hs2
 have HG2 := lh (HG0.out.trans g2)
 clear hs2 g2 hs1
 go_wp2_with fail
 first | go_end0 | refine bodyPost_ret (results_none rfl _ _ _) rfl ?_
 exact ⟨rfl, HS2.out, HG2.out⟩
theorem wfld_110 (g : Nat) (s : List UInt8) (m : Mg) (ns : List (List UInt8)) (w : World) (h : WrRow w g s) (hl : s.length ≤ 600000) (ho : 0 ≤ m.newFid ∧ m.newFid < 4294967296) : Calls Tryz.prog 127 #[.pointer (some ⟨g, 0, none⟩), .agg m.cs.toArray, .int .u8 110] w fun e w' => e = .returned (.tuple #[]) ∧ WrRow w' g (s ++ Oct.le 4 m.newFid.toNat) ∧ w.grownBy w' (some g) := by
 have HB := lh (alloc_below w (mgobj m))
 have H1 := lh (heap_alloc_new w (mgobj m))
 have HS := lh (h.next HB.out)
 have HNU := lh (fun (W : World) (h : WrRow W g s) => show Calls Tryz.prog 126 #[.pointer (some ⟨g, 0, none⟩), .int .i64 m.newFid, .int .i64 4] W fun e w' => e = .returned (.tuple #[]) ∧ WrRow w' g (s ++ Oct.le 4 m.newFid.toNat) ∧ W.grownBy w' (some g) from wnum_any g s m.newFid 4 W h (by omega) (by omega) (by omega) ho.1 (by omega))
 have HC := lh (show ∀ W : World, W.heap[w.heap.size]? = some (mgobj m) → W.cell? ⟨w.heap.size, 3, none⟩ = some (.int .i64 m.newFid) from fun W h => by rw [Lib.cell_of_heap h]; rfl)
 unfold mgobj at *
 clear h hl ho
 generalize s ++ Oct.le 4 m.newFid.toNat = SE at *
 generalize m.cs = cs at *
 generalize m.newFid = x at *
 go_enter Tryz.func127, Tryz.ntmps127
 go_upto_region 1 with fail
 have HG0 := lh (below_grownBy HB.out (some g))
 generalize World.alloc _ _ = w1 at *
 have c0 := HC.out _ H1.out
 go_wp2_with fail
 have hs1 := HS.out
 (with_reducible refine (HNU.out _ hs1).mono ?_); rintro e w2 ⟨rfl, hs2, g2⟩
 have HS2 := lh hs2
 have HG2 := lh (HG0.out.trans g2)
 clear hs2 g2 hs1
 go_wp2_with fail
 first | go_end0 | refine bodyPost_ret (results_none rfl _ _ _) rfl ?_
 exact ⟨rfl, HS2.out, HG2.out⟩
theorem wfld_112 (g : Nat) (s : List UInt8) (m : Mg) (ns : List (List UInt8)) (w : World) (h : WrRow w g s) (hl : s.length ≤ 600000) (ho : 0 ≤ m.perm ∧ m.perm < 4294967296) : Calls Tryz.prog 127 #[.pointer (some ⟨g, 0, none⟩), .agg m.cs.toArray, .int .u8 112] w fun e w' => e = .returned (.tuple #[]) ∧ WrRow w' g (s ++ Oct.le 4 m.perm.toNat) ∧ w.grownBy w' (some g) := by
 have HB := lh (alloc_below w (mgobj m))
 have H1 := lh (heap_alloc_new w (mgobj m))
 have HS := lh (h.next HB.out)
 have HNU := lh (fun (W : World) (h : WrRow W g s) => show Calls Tryz.prog 126 #[.pointer (some ⟨g, 0, none⟩), .int .i64 m.perm, .int .i64 4] W fun e w' => e = .returned (.tuple #[]) ∧ WrRow w' g (s ++ Oct.le 4 m.perm.toNat) ∧ W.grownBy w' (some g) from wnum_any g s m.perm 4 W h (by omega) (by omega) (by omega) ho.1 (by omega))
 have HC := lh (show ∀ W : World, W.heap[w.heap.size]? = some (mgobj m) → W.cell? ⟨w.heap.size, 17, none⟩ = some (.int .i64 m.perm) from fun W h => by rw [Lib.cell_of_heap h]; rfl)
 unfold mgobj at *
 clear h hl ho
 generalize s ++ Oct.le 4 m.perm.toNat = SE at *
 generalize m.cs = cs at *
 generalize m.perm = x at *
 go_enter Tryz.func127, Tryz.ntmps127
 go_upto_region 1 with fail
 have HG0 := lh (below_grownBy HB.out (some g))
 generalize World.alloc _ _ = w1 at *
 have c0 := HC.out _ H1.out
 go_wp2_with fail
 have hs1 := HS.out
 (with_reducible refine (HNU.out _ hs1).mono ?_); rintro e w2 ⟨rfl, hs2, g2⟩
 have HS2 := lh hs2
 have HG2 := lh (HG0.out.trans g2)
 clear hs2 g2 hs1
 go_wp2_with fail
 first | go_end0 | refine bodyPost_ret (results_none rfl _ _ _) rfl ?_
 exact ⟨rfl, HS2.out, HG2.out⟩
theorem wfld_115 (g : Nat) (s : List UInt8) (m : Mg) (ns : List (List UInt8)) (w : World) (h : WrRow w g s) (hl : s.length ≤ 600000) (ho : m.session.length ≤ 10000) : Calls Tryz.prog 127 #[.pointer (some ⟨g, 0, none⟩), .agg m.cs.toArray, .int .u8 115] w fun e w' => e = .returned (.tuple #[]) ∧ WrRow w' g (s ++ txt m.session) ∧ w.grownBy w' (some g) := by
 have HB := lh (alloc_below w (mgobj m))
 have H1 := lh (heap_alloc_new w (mgobj m))
 have HS := lh (h.next HB.out)
 have HNU := lh (fun (W : World) (h : WrRow W g s) => wtext_any g s m.session W h (by omega) ho)
 have HC := lh (show ∀ W : World, W.heap[w.heap.size]? = some (mgobj m) → W.cell? ⟨w.heap.size, 38, none⟩ = some (.string (T m.session)) from fun W h => by rw [Lib.cell_of_heap h]; rfl)
 unfold mgobj at *
 clear h hl ho
 generalize s ++ txt m.session = SE at *
 generalize m.cs = cs at *
 generalize m.session = x at *
 go_enter Tryz.func127, Tryz.ntmps127
 go_upto_region 1 with fail
 have HG0 := lh (below_grownBy HB.out (some g))
 generalize World.alloc _ _ = w1 at *
 have c0 := HC.out _ H1.out
 go_wp2_with fail
 have hs1 := HS.out
 (with_reducible refine (HNU.out _ hs1).mono ?_); rintro e w2 ⟨rfl, hs2, g2⟩
 have HS2 := lh hs2
 have HG2 := lh (HG0.out.trans g2)
 clear hs2 g2 hs1
 go_wp2_with fail
 first | go_end0 | refine bodyPost_ret (results_none rfl _ _ _) rfl ?_
 exact ⟨rfl, HS2.out, HG2.out⟩
theorem wfld_116 (g : Nat) (s : List UInt8) (m : Mg) (ns : List (List UInt8)) (w : World) (h : WrRow w g s) (hl : s.length ≤ 600000) (ho : 0 ≤ m.term ∧ m.term < 4294967296) : Calls Tryz.prog 127 #[.pointer (some ⟨g, 0, none⟩), .agg m.cs.toArray, .int .u8 116] w fun e w' => e = .returned (.tuple #[]) ∧ WrRow w' g (s ++ Oct.le 4 m.term.toNat) ∧ w.grownBy w' (some g) := by
 have HB := lh (alloc_below w (mgobj m))
 have H1 := lh (heap_alloc_new w (mgobj m))
 have HS := lh (h.next HB.out)
 have HNU := lh (fun (W : World) (h : WrRow W g s) => show Calls Tryz.prog 126 #[.pointer (some ⟨g, 0, none⟩), .int .i64 m.term, .int .i64 4] W fun e w' => e = .returned (.tuple #[]) ∧ WrRow w' g (s ++ Oct.le 4 m.term.toNat) ∧ W.grownBy w' (some g) from wnum_any g s m.term 4 W h (by omega) (by omega) (by omega) ho.1 (by omega))
 have HC := lh (show ∀ W : World, W.heap[w.heap.size]? = some (mgobj m) → W.cell? ⟨w.heap.size, 37, none⟩ = some (.int .i64 m.term) from fun W h => by rw [Lib.cell_of_heap h]; rfl)
 unfold mgobj at *
 clear h hl ho
 generalize s ++ Oct.le 4 m.term.toNat = SE at *
 generalize m.cs = cs at *
 generalize m.term = x at *
 go_enter Tryz.func127, Tryz.ntmps127
 go_upto_region 1 with fail
 have HG0 := lh (below_grownBy HB.out (some g))
 generalize World.alloc _ _ = w1 at *
 have c0 := HC.out _ H1.out
 go_wp2_with fail
 have hs1 := HS.out
 (with_reducible refine (HNU.out _ hs1).mono ?_); rintro e w2 ⟨rfl, hs2, g2⟩
 have HS2 := lh hs2
 have HG2 := lh (HG0.out.trans g2)
 clear hs2 g2 hs1
 go_wp2_with fail
 first | go_end0 | refine bodyPost_ret (results_none rfl _ _ _) rfl ?_
 exact ⟨rfl, HS2.out, HG2.out⟩
theorem wfld_117 (g : Nat) (s : List UInt8) (m : Mg) (ns : List (List UInt8)) (w : World) (h : WrRow w g s) (hl : s.length ≤ 600000) (ho : m.user.length ≤ 10000) : Calls Tryz.prog 127 #[.pointer (some ⟨g, 0, none⟩), .agg m.cs.toArray, .int .u8 117] w fun e w' => e = .returned (.tuple #[]) ∧ WrRow w' g (s ++ txt m.user) ∧ w.grownBy w' (some g) := by
 have HB := lh (alloc_below w (mgobj m))
 have H1 := lh (heap_alloc_new w (mgobj m))
 have HS := lh (h.next HB.out)
 have HNU := lh (fun (W : World) (h : WrRow W g s) => wtext_any g s m.user W h (by omega) ho)
 have HC := lh (show ∀ W : World, W.heap[w.heap.size]? = some (mgobj m) → W.cell? ⟨w.heap.size, 8, none⟩ = some (.string (T m.user)) from fun W h => by rw [Lib.cell_of_heap h]; rfl)
 unfold mgobj at *
 clear h hl ho
 generalize s ++ txt m.user = SE at *
 generalize m.cs = cs at *
 generalize m.user = x at *
 go_enter Tryz.func127, Tryz.ntmps127
 go_upto_region 1 with fail
 have HG0 := lh (below_grownBy HB.out (some g))
 generalize World.alloc _ _ = w1 at *
 have c0 := HC.out _ H1.out
 go_wp2_with fail
 have hs1 := HS.out
 (with_reducible refine (HNU.out _ hs1).mono ?_); rintro e w2 ⟨rfl, hs2, g2⟩
 have HS2 := lh hs2
 have HG2 := lh (HG0.out.trans g2)
 clear hs2 g2 hs1
 go_wp2_with fail
 first | go_end0 | refine bodyPost_ret (results_none rfl _ _ _) rfl ?_
 exact ⟨rfl, HS2.out, HG2.out⟩
theorem wfld_118 (g : Nat) (s : List UInt8) (m : Mg) (ns : List (List UInt8)) (w : World) (h : WrRow w g s) (hl : s.length ≤ 600000) (ho : m.version.length ≤ 10000) : Calls Tryz.prog 127 #[.pointer (some ⟨g, 0, none⟩), .agg m.cs.toArray, .int .u8 118] w fun e w' => e = .returned (.tuple #[]) ∧ WrRow w' g (s ++ txt m.version) ∧ w.grownBy w' (some g) := by
 have HB := lh (alloc_below w (mgobj m))
 have H1 := lh (heap_alloc_new w (mgobj m))
 have HS := lh (h.next HB.out)
 have HNU := lh (fun (W : World) (h : WrRow W g s) => wtext_any g s m.version W h (by omega) ho)
 have HC := lh (show ∀ W : World, W.heap[w.heap.size]? = some (mgobj m) → W.cell? ⟨w.heap.size, 7, none⟩ = some (.string (T m.version)) from fun W h => by rw [Lib.cell_of_heap h]; rfl)
 unfold mgobj at *
 clear h hl ho
 generalize s ++ txt m.version = SE at *
 generalize m.cs = cs at *
 generalize m.version = x at *
 go_enter Tryz.func127, Tryz.ntmps127
 go_upto_region 1 with fail
 have HG0 := lh (below_grownBy HB.out (some g))
 generalize World.alloc _ _ = w1 at *
 have c0 := HC.out _ H1.out
 go_wp2_with fail
 have hs1 := HS.out
 (with_reducible refine (HNU.out _ hs1).mono ?_); rintro e w2 ⟨rfl, hs2, g2⟩
 have HS2 := lh hs2
 have HG2 := lh (HG0.out.trans g2)
 clear hs2 g2 hs1
 go_wp2_with fail
 first | go_end0 | refine bodyPost_ret (results_none rfl _ _ _) rfl ?_
 exact ⟨rfl, HS2.out, HG2.out⟩
theorem wfld_119 (g : Nat) (s : List UInt8) (m : Mg) (ns : List (List UInt8)) (w : World) (h : WrRow w g s) (hl : s.length ≤ 600000) (ho : ns.length ≤ 16 ∧ ∀ s ∈ ns, s.length ≤ 1000) (hv : Txs w m.names ns) (hg : ∃ w0, Txs w0 m.names ns ∧ w0.heap.size ≤ g) : Calls Tryz.prog 127 #[.pointer (some ⟨g, 0, none⟩), .agg m.cs.toArray, .int .u8 119] w fun e w' => e = .returned (.tuple #[]) ∧ WrRow w' g (s ++ (Oct.le 2 ns.length ++ ns.flatMap txt)) ∧ w.grownBy w' (some g) := by
 have HB := lh (alloc_below w (mgobj m))
 have H1 := lh (heap_alloc_new w (mgobj m))
 have HS := lh (h.next HB.out)
 have hv1 := hv.below HB.out
 have HNU := lh (fun (h : WrRow (w.alloc (mgobj m)) g s) => wnames_any g s m.names ns _ h (by omega) ho hv1 hg)
 obtain ⟨an, nn, cn, hn⟩ := hv.form
 have HC := lh (show ∀ W : World, W.heap[w.heap.size]? = some (mgobj m) → W.cell? ⟨w.heap.size, 10, none⟩ = some (m.names) from fun W h => by rw [Lib.cell_of_heap h]; rfl)
 rw [hn] at HNU HC
 unfold mgobj at *
 clear h hl ho hv hv1 hg hn
 generalize s ++ (Oct.le 2 ns.length ++ ns.flatMap txt) = SE at *
 generalize m.cs = cs at *
 go_enter Tryz.func127, Tryz.ntmps127
 go_upto_region 1 with fail
 have HG0 := lh (below_grownBy HB.out (some g))
 generalize World.alloc _ _ = w1 at *
 have c0 := HC.out _ H1.out
 go_wp2_with fail
 have hs1 := HS.out
 (with_reducible refine (HNU.out hs1).mono ?_); rintro e w2 ⟨rfl, hs2, g2⟩
 have HS2 := lh hs2
 have HG2 := lh (HG0.out.trans g2)
 clear hs2 g2 hs1
 go_wp2_with fail
 first | go_end0 | refine bodyPost_ret (results_none rfl _ _ _) rfl ?_
 exact ⟨rfl, HS2.out, HG2.out⟩
theorem wfld_120 (g : Nat) (s : List UInt8) (m : Mg) (ns : List (List UInt8)) (w : World) (h : WrRow w g s) (hl : s.length ≤ 600000) (ho : m.attach.length ≤ 10000) : Calls Tryz.prog 127 #[.pointer (some ⟨g, 0, none⟩), .agg m.cs.toArray, .int .u8 120] w fun e w' => e = .returned (.tuple #[]) ∧ WrRow w' g (s ++ txt m.attach) ∧ w.grownBy w' (some g) := by
 have HB := lh (alloc_below w (mgobj m))
 have H1 := lh (heap_alloc_new w (mgobj m))
 have HS := lh (h.next HB.out)
 have HNU := lh (fun (W : World) (h : WrRow W g s) => wtext_any g s m.attach W h (by omega) ho)
 have HC := lh (show ∀ W : World, W.heap[w.heap.size]? = some (mgobj m) → W.cell? ⟨w.heap.size, 9, none⟩ = some (.string (T m.attach)) from fun W h => by rw [Lib.cell_of_heap h]; rfl)
 unfold mgobj at *
 clear h hl ho
 generalize s ++ txt m.attach = SE at *
 generalize m.cs = cs at *
 generalize m.attach = x at *
 go_enter Tryz.func127, Tryz.ntmps127
 go_upto_region 1 with fail
 have HG0 := lh (below_grownBy HB.out (some g))
 generalize World.alloc _ _ = w1 at *
 have c0 := HC.out _ H1.out
 go_wp2_with fail
 have hs1 := HS.out
 (with_reducible refine (HNU.out _ hs1).mono ?_); rintro e w2 ⟨rfl, hs2, g2⟩
 have HS2 := lh hs2
 have HG2 := lh (HG0.out.trans g2)
 clear hs2 g2 hs1
 go_wp2_with fail
 first | go_end0 | refine bodyPost_ret (results_none rfl _ _ _) rfl ?_
 exact ⟨rfl, HS2.out, HG2.out⟩
/-- Any letter. -/
theorem wfld_any (c : UInt8) (hc : IsLet c) (g : Nat) (s : List UInt8) (m : Mg) (ns : List (List UInt8)) (w : World) (h : WrRow w g s) (hl : s.length ≤ 600000) (ho : LetOk m ns c) (hv : Txs w m.names ns) (hg : ∃ w0, Txs w0 m.names ns ∧ w0.heap.size ≤ g) (hdl : DirOk m → (dirb m).length ≤ 20000) :
  Calls Tryz.prog 127 #[.pointer (some ⟨g, 0, none⟩), .agg m.cs.toArray, .int .u8 (c.toNat : Int)] w fun e w' => e = .returned (.tuple #[]) ∧ WrRow w' g (s ++ enc m ns c) ∧ w.grownBy w' (some g) := by
 rcases hc with rfl | rfl | rfl | rfl | rfl | rfl | rfl | rfl | rfl | rfl | rfl | rfl | rfl | rfl | rfl | rfl | rfl | rfl
 ·exact wfld_77 g s m ns w h hl ho 
 ·exact wfld_78 g s m ns w h hl ho 
 ·exact wfld_79 g s m ns w h hl ho 
 ·exact wfld_83 g s m ns w h hl ho (hdl ho)
 ·exact wfld_97 g s m ns w h hl ho 
 ·exact wfld_99 g s m ns w h hl ho 
 ·exact wfld_100 g s m ns w h hl ho 
 ·exact wfld_102 g s m ns w h hl ho 
 ·exact wfld_108 g s m ns w h hl ho 
 ·exact wfld_109 g s m ns w h hl ho 
 ·exact wfld_110 g s m ns w h hl ho 
 ·exact wfld_112 g s m ns w h hl ho 
 ·exact wfld_115 g s m ns w h hl ho 
 ·exact wfld_116 g s m ns w h hl ho 
 ·exact wfld_117 g s m ns w h hl ho 
 ·exact wfld_118 g s m ns w h hl ho 
 ·exact wfld_119 g s m ns w h hl ho hv hg
 ·exact wfld_120 g s m ns w h hl ho 
end Go.Proofs.YtfibaopngpfmjaaGreatDoor
