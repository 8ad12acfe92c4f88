/- The reader's numbers, texts, descriptions and names. Conditions: those that each theorem names. -/
import Derived.Test.YtfibaopngpfmjaaGreatDoorRzE1
import Derived.Test.YtfibaopngpfmjaaGreatDoorRzB6
import Derived.Test.YtfibaopngpfmjaaGreatDoorRzA1
import Derived.Test.YtfibaopngpfmjaaGreatDoorRzB1
set_option linter.unusedVariables false
set_option linter.unusedSimpArgs false
set_option maxRecDepth 100000
set_option maxHeartbeats 8000000
namespace Go.Proofs.YtfibaopngpfmjaaGreatDoor
open Go.RowKit Go.Proofs
/-- x stands in s at a. -/
def At (s : List UInt8) (a : Nat) (x : List UInt8) : Prop := ∃ pre post, s = pre ++ x ++ post ∧ pre.length = a
theorem At.left {s : List UInt8} {a : Nat} {x y : List UInt8} (h : At s a (x ++ y)) : At s a x := by
  obtain ⟨pre, post, h1, h2⟩ := h
  exact ⟨pre, y ++ post, by rw [h1]; simp, h2⟩
theorem At.right {s : List UInt8} {a : Nat} {x y : List UInt8} (h : At s a (x ++ y)) : At s (a + x.length) y := by
  obtain ⟨pre, post, h1, h2⟩ := h
  exact ⟨pre ++ x, post, by rw [h1]; simp, by simp [h2]⟩
theorem At.le {s : List UInt8} {a : Nat} {x : List UInt8} (h : At s a x) : a + x.length ≤ s.length := by
  obtain ⟨pre, post, h1, h2⟩ := h
  rw [h1, List.length_append, List.length_append]; omega
theorem At.part {s : List UInt8} {a : Nat} {x : List UInt8} (h : At s a x) : (s.drop a).take x.length = x := by
  obtain ⟨pre, post, h1, h2⟩ := h
  subst h2
  rw [h1, List.append_assoc, List.drop_left, List.take_left]
theorem at_num {s : List UInt8} {a k N : Nat} (h : At s a (Oct.le k N)) (hk : 1 ≤ k) (hk2 : k ≤ 8) (hN : N ≤ 9223372036854775807) (hf : N < 256 ^ k) :
    Oct.getE s (a : Int) (k : Int) = 0 ∧ Oct.getN s (a : Int) (k : Int) = N := by
  have hp : Oct.part s (a : Int) (k : Int) = Oct.le k N := by
    unfold Oct.part
    rw [Int.toNat_natCast, Int.toNat_natCast]
    have := h.part
    rw [Oct.le_length] at this
    exact this
  have hv : Oct.leVal (Oct.part s (a : Int) (k : Int)) = N := by rw [hp, Oct.leVal_le, Nat.mod_eq_of_lt hf]
  have hl := h.le
  rw [Oct.le_length] at hl
  have hE : Oct.getE s (a : Int) (k : Int) = 0 := by
    unfold Oct.getE
    rw [hv, if_neg (by omega), if_neg (by omega), if_neg (by omega)]
  exact ⟨hE, by unfold Oct.getN; rw [if_pos hE, hv]⟩
theorem at_text {s t : List UInt8} {a : Nat} (h : At s a (txt t)) (ht : t.length ≤ 65535) :
    Oct.gtE s (a : Int) = 0 ∧ Oct.gtS s (a : Int) = t ∧ Oct.gtT s (a : Int) = ((a + (t.length + 2) : Nat) : Int) := by
  have hl := h.le
  rw [txt_len] at hl
  obtain ⟨h1, h2⟩ := at_num (k := 2) (N := t.length) h.left (by omega) (by omega) (by omega) (by omega)
  have h1' : Oct.getE s (a : Int) 2 = 0 := h1
  have h2' : Oct.getN s (a : Int) 2 = (t.length : Int) := h2
  have h3' : Oct.getT s (a : Int) 2 = (a : Int) + 2 := by unfold Oct.getT; rw [h1', if_pos rfl]
  have hE : Oct.gtE s (a : Int) = 0 := by
    unfold Oct.gtE
    rw [h1', if_neg (by simp), h2', h3', if_neg (by omega)]
  have hp := (h.right).part
  rw [Oct.le_length] at hp
  refine ⟨hE, ?_, ?_⟩
  · unfold Oct.gtS
    rw [if_pos hE, h2', h3', Int.toNat_natCast, show ((a : Int) + 2).toNat = a + 2 from by omega]
    exact hp
  · unfold Oct.gtT
    rw [if_pos hE, h2', h3']
    omega
theorem rnumv_any (g : Nat) (s : List UInt8) (a k N : Nat) (w : World) (h0 : RdRow w g s a) (hat : At s a (Oct.le k N)) (hk : 1 ≤ k) (hk2 : k ≤ 8) (hN : N ≤ 9223372036854775807) (hf : N < 256 ^ k) (hl : s.length ≤ 1000000) :
    Calls Tryz.prog 31 #[.pointer (some ⟨g, 0, none⟩), .int .i64 (k : Int)] w fun e w' => e = .returned (.int .i64 (N : Int)) ∧ RdRow w' g s (a + k) ∧ w.grownBy w' (some g) := by
  obtain ⟨h1, h2⟩ := at_num hat hk hk2 hN hf
  have hle := hat.le
  rw [Oct.le_length] at hle
  have := rnum_any g s a k w h0 hk hk2 hle hl h1
  rw [h2] at this
  exact this
theorem get_text (s t : List UInt8) (a : Nat) (w : World) (hat : At s a (txt t)) (ht : t.length ≤ 65535) (hl : s.length ≤ 1000000) :
    Calls Tryz.prog 129 #[.string (T s), .int .i64 (a : Int)] w fun e w' => e = .returned (.tuple #[.string (T t), .int .i64 ((a + (t.length + 2) : Nat) : Int), .int .i64 0]) ∧ w' = w := by
  obtain ⟨h1, h2, h3⟩ := at_text hat ht
  refine (gt_any (T s) (a : Int) w (by rw [T_size]; omega)).mono fun e w' h => ?_
  unfold GtSays at h
  rw [show (T s).data.toList = s from by simp [T], h1, h2, h3] at h
  exact ⟨h.1, h.2.symm⟩
theorem rtext_any (g : Nat) (s t : List UInt8) (a : Nat) (w : World) (h0 : RdRow w g s a) (hat : At s a (txt t)) (ht : t.length ≤ 65535) (hl : s.length ≤ 1000000) :
    Calls Tryz.prog 72 #[.pointer (some ⟨g, 0, none⟩)] w fun e w' => e = .returned (.string (T t)) ∧ RdRow w' g s (a + (txt t).length) ∧ w.grownBy w' (some g) := by
  rw [txt_len]
  have HG := lh (fun W => get_text s t a W hat ht hl)
  have HS := lh (show RdRow w.drew g s a from h0.next (below_drew1 w))
  have HSN := lh (show RdRow (w.drew.setCell ⟨g, 1, none⟩ (.int .i64 ((a + (t.length + 2) : Nat) : Int))) g s (a + (t.length + 2)) from heap_setCell_same w.drew g 1 _ _ (.int .i64 ((a + (t.length + 2) : Nat) : Int)) HS.out)
  have HGN := lh (show w.grownBy (w.drew.setCell ⟨g, 1, none⟩ (.int .i64 ((a + (t.length + 2) : Nat) : Int))) (some g) from (below_grownBy (below_drew1 w) (some g)).trans (grown_setG (below_grownBy (Below.refl _ w.drew) (some g)) 1 _))
  obtain ⟨⟨c0, c1, c2⟩, f1, f2⟩ := h0.reads
  clear h0 hat ht hl
  generalize hak : ((a + (t.length + 2) : Nat) : Int) = ak at *
  generalize (a : Int) = aa at *
  go_enter Tryz.func72, Tryz.ntmps72
  go_upto_region 3 with fail
  go_region_held3 (fun W' => W'.cell? ⟨g, 0, none⟩ = some (.string (T s)) ∧ W'.cell? ⟨g, 1, none⟩ = some (.int .i64 aa)) (first | (with_reducible assumption) | (exact ⟨c0, c1⟩)) (first | (go_at_call 129; (with_reducible refine (HG.out _).mono ?_); rintro e w4 ⟨rfl, rfl⟩))
  go_wp2_with fail
  go_ret
  exact ⟨rfl, HSN.out, HGN.out⟩
theorem rdata_any (g : Nat) (s t : List UInt8) (a k : Nat) (w : World) (h0 : RdRow w g s a) (hat : At s a (Oct.le k t.length ++ t)) (hk : 1 ≤ k) (hk2 : k ≤ 8) (hf : t.length < 256 ^ k) (hl : s.length ≤ 1000000) :
    Calls Tryz.prog 77 #[.pointer (some ⟨g, 0, none⟩), .int .i64 (k : Int)] w fun e w' => e = .returned (.string (T t)) ∧ RdRow w' g s (a + (Oct.le k t.length ++ t).length) ∧ w.grownBy w' (some g) := by
  have hle := hat.le
  rw [List.length_append, Oct.le_length] at hle
  have HN := lh (rnumv_any g s a k t.length w h0 hat.left hk hk2 (by omega) hf hl)
  have hpt := hat.right.part
  rw [Oct.le_length] at hpt
  have hx : (T s).extract (a + k) (a + k + t.length) = T t := by
    rw [extract_T, show (T s).data.toList = s from by simp [T], show a + k + t.length - (a + k) = t.length from by omega, hpt]
  have HX := lh hx
  rw [List.length_append, Oct.le_length, show a + (k + t.length) = a + k + t.length from by omega]
  have hsz : (T s).size = s.length := T_size s
  clear h0 hat hk hk2 hf hpt hx
  generalize hkk : (k : Int) = kk at *
  go_enter Tryz.func77, Tryz.ntmps77
  go_wp2_with fail
  (with_reducible refine HN.out.mono ?_); rintro e w1 ⟨rfl, hs1, g1⟩
  have HS1 := lh hs1
  have HG1 := lh g1
  clear HN hs1 g1
  obtain ⟨⟨c0, c1, c2⟩, f1, f2⟩ := HS1.out.reads
  generalize hak : a + k = ak at *
  have k1 : decide ((s.length : Int) - (ak : Int) < t.length) = false := decide_eq_false (by omega)
  go_upto_region 2 with fail
  go_quiet (fail)
  go_upto_region 6 with fail
  have hs2 := (show RdRow ((w1.drewN nq).setCell ⟨g, 1, none⟩ (.int .i64 ((ak : Int) + t.length))) g s (ak + t.length) from by
    unfold RdRow
    rw [show ((ak + t.length : Nat) : Int) = (ak : Int) + t.length from by omega]
    exact heap_setCell_same (w1.drewN nq) g 1 _ _ _ (HS1.out.next (below_drewN w1 nq)))
  have HG2 := lh (HG1.out.trans ((below_grownBy (below_drewN w1 nq) (some g)).trans (grown_setG (below_grownBy (Below.refl _ (w1.drewN nq)) (some g)) 1 (.int .i64 ((ak : Int) + t.length)))))
  have HS2 := lh hs2
  clear hs2 HS1 HG1 c0 c1 c2 f1 f2
  generalize World.setCell _ _ _ = w2 at *
  obtain ⟨⟨c0, c1, c2⟩, _, _⟩ := HS2.out.reads
  have e1 : ((ak + t.length : Nat) : Int) = (ak : Int) + t.length := by omega
  rw [e1] at c1
  have e2 : (ak : Int) + t.length - t.length = ak := by omega
  have k2 : (ak : Int) + t.length ≤ s.length := by omega
  have k3 : (ak : Int) ≤ (ak : Int) + t.length := by omega
  have hx := HX.out
  go_quiet (fail)
  go_wp2_with fail
  rw [hx]
  go_ret
  exact ⟨rfl, by rw [hak]; exact HS2.out.next (below_drewN w2 _), HG2.out.trans (below_grownBy (below_drewN w2 _) (some g))⟩
theorem count_one (s : List UInt8) (c : UInt8) (w : World) : Calls Tryz.prog 102 #[.string (T s), .string (T [c])] w fun e w' => e = .returned (.int .i64 (Lib.countByte s c)) ∧ w' = w :=
  Any.strings_Count_one { lays155 with } (T s) c w
/-- The reader's block: no error so far. -/
def SRow (W : World) (g : Nat) (s : List UInt8) (a : Nat) : Prop := W.heap[g]? = some (.cells #[.string (T s), .int .i64 (a : Int), .bool true] 245 (0, 0))
theorem SRow.reads {W : World} {g a : Nat} {s : List UInt8} (h : SRow W g s a) : (W.cell? ⟨g, 0, none⟩ = some (.string (T s)) ∧ W.cell? ⟨g, 1, none⟩ = some (.int .i64 (a : Int)) ∧ W.cell? ⟨g, 2, none⟩ = some (.bool true)) ∧ W.frozen? ⟨g, 1, none⟩ = false ∧ W.frozen? ⟨g, 2, none⟩ = false := by
  unfold SRow at h
  refine ⟨⟨?_, ?_, ?_⟩, ?_, ?_⟩
  all_goals first
    | (rw [Lib.cell_of_heap h]; rfl)
    | (exact Lib.frozen_of_heap h _)
theorem SRow.next {W W' : World} {g a : Nat} {s : List UInt8} (h : SRow W g s a) (hb : Below W.heap.size W W') : SRow W' g s a := (hb.block _ (row_ltP h)).trans h
theorem leVal_ff (k : Nat) : Oct.leVal (List.replicate k 255) + 1 = 256 ^ k := by
  induction k with
  | zero => rfl
  | succ k ih =>
    rw [List.replicate_succ, Oct.leVal, Nat.pow_succ]
    have : (255 : UInt8).toNat = 255 := rfl
    rw [this]
    omega
theorem count_le (k N : Nat) (h : N + 1 < 256 ^ k) : Lib.countByte (Oct.le k N) 255 ≠ k := by
  intro hc
  have h1 : (Oct.le k N).count 255 = (Oct.le k N).length := by rw [Oct.le_length]; exact hc
  have h2 : Oct.le k N = List.replicate k 255 := by
    have := List.count_eq_length.1 h1
    rw [List.eq_replicate_iff]
    exact ⟨Oct.le_length _ _, fun b hb => (this b hb).symm⟩
  have h3 := Oct.leVal_le k N
  rw [h2, Nat.mod_eq_of_lt (by omega)] at h3
  have := leVal_ff k
  omega
theorem snum_any (g : Nat) (s : List UInt8) (a : Nat) (n : Int) (k : Nat) (z : Int) (w : World) (h0 : SRow w g s a) (hat : At s a (knum (n, k, z))) (hk : 1 ≤ k) (hk2 : k ≤ 8) (hn0 : -1 ≤ n) (hn : n ≤ 9007199254740991) (hf : n + 1 < (256 : Int) ^ k) (hl : s.length ≤ 1000000) :
    Calls Tryz.prog 231 #[.pointer (some ⟨g, 0, none⟩), .int .i64 (k : Int)] w fun e w' => e = .returned (.int .i64 n) ∧ SRow w' g s (a + k) ∧ w.grownBy w' (some g) := by
  have hle := hat.le
  have hpt := hat.part
  rw [knum_len] at hle hpt
  dsimp only at hle hpt
  have hx : (T s).extract a (a + k) = T (knum (n, k, z)) := by
    rw [extract_T, show (T s).data.toList = s from by simp [T], show a + k - a = k from by omega, hpt]
  have HX := lh hx
  have HCO := lh (fun (W : World) => count_one (knum (n, k, z)) 255 W)
  have hsz : (T s).size = s.length := T_size s
  have HCN := lh (show (n = -1 → (Lib.countByte (knum (n, k, z)) 255 : Int) = (k : Int)) ∧ (n ≠ -1 → ((Lib.countByte (knum (n, k, z)) 255 : Int) == (k : Int)) = false ∧ ∀ W, Calls Tryz.prog 30 #[.string (T (knum (n, k, z))), .int .i64 0, .int .i64 (k : Int)] W fun e w' => e = .returned (.tuple #[.int .i64 n, .int .i64 (k : Int), .int .i64 0]) ∧ w' = W) from by
    refine ⟨fun e => ?_, fun e => ?_⟩
    · subst e
      simp [knum, Lib.countByte]
    · have e2 : knum (n, k, z) = Oct.le k n.toNat := by simp [knum, e]
      have hfn : n.toNat + 1 < 256 ^ k := by
        have h1 : ((n.toNat + 1 : Nat) : Int) < ((256 ^ k : Nat) : Int) := by
          have : ((256 ^ k : Nat) : Int) = (256 : Int) ^ k := by simp
          rw [this]; omega
        exact Int.ofNat_lt.1 h1
      rw [e2]
      refine ⟨?_, fun W => ?_⟩
      · have := count_le k n.toNat hfn
        simp only [beq_eq_false_iff_ne, ne_eq]
        intro h
        exact this (by omega)
      · have hat2 : At (Oct.le k n.toNat) 0 (Oct.le k n.toNat) := ⟨[], [], by simp, rfl⟩
        obtain ⟨h1, h2⟩ := at_num hat2 hk hk2 (by omega) (by omega)
        have := get_num (Oct.le k n.toNat) 0 k W hk hk2 (by rw [Oct.le_length]; omega) (by rw [Oct.le_length]; omega) h1
        rw [h2, show ((n.toNat : Nat) : Int) = n from by omega, Nat.zero_add] at this
        exact this)
  have HS := lh h0
  clear h0 hat hf hpt hx hk hk2
  generalize knum (n, k, z) = p at *
  generalize Lib.countByte p 255 = cb at *
  obtain ⟨⟨c0, c1, c2⟩, f1, f2⟩ := HS.out.reads
  have k1 : decide ((s.length : Int) - (a : Int) < (k : Int)) = false := decide_eq_false (by omega)
  have k2 : (a : Int) + (k : Int) ≤ s.length := by omega
  go_enter Tryz.func231, Tryz.ntmps231
  go_upto_region 1 with fail
  go_quiet (fail)
  go_upto_region 4 with fail
  go_quiet (fail)
  go_upto_region 6 with fail
  rw [HX.out]
  have HKY := lh (fun q => show SRow ((w.drewN q).setCell ⟨g, 1, none⟩ (.int .i64 ((a : Int) + k))) g s (a + k) ∧ w.grownBy ((w.drewN q).setCell ⟨g, 1, none⟩ (.int .i64 ((a : Int) + k))) (some g) from
    ⟨by
      unfold SRow
      rw [show ((a + k : Nat) : Int) = (a : Int) + k from by omega]
      exact heap_setCell_same (w.drewN q) g 1 _ _ _ (HS.out.next (below_drewN w q)),
     (below_grownBy (below_drewN w q) (some g)).trans (grown_setG (below_grownBy (Below.refl _ (w.drewN q)) (some g)) 1 (.int .i64 ((a : Int) + k)))⟩)
  generalize hw2 : World.setCell _ _ _ = w2
  have HF := lh (show SRow w2 g s (a + k) ∧ w.grownBy w2 (some g) from by rw [← hw2]; exact HKY.out _)
  clear HKY hw2 HS c0 c1 c2 f1 f2
  by_cases h1 : n = -1
  · have hkc : ((cb : Int) == (k : Int)) = true := by rw [HCN.out.1 h1]; simp
    subst h1
    clear HCN
    go_wp2_with fail
    (with_reducible refine (HCO.out _).mono ?_); rintro e wx ⟨rfl, rfl⟩
    go_wp2_with fail
    go_ret
    exact ⟨rfl, HF.out⟩
  · obtain ⟨hkc, hget⟩ := HCN.out.2 h1
    have HGE := lh hget
    clear HCN hget h1
    go_wp2_with fail
    (with_reducible refine (HCO.out _).mono ?_); rintro e wx ⟨rfl, rfl⟩
    go_wp2_with fail
    (with_reducible refine (HGE.out _).mono ?_); rintro e wx ⟨rfl, rfl⟩
    go_wp2_with fail
    go_ret
    exact ⟨rfl, HF.out⟩
theorem stext_any (g : Nat) (s t : List UInt8) (a : Nat) (w : World) (h0 : SRow w g s a) (hat : At s a (txt t)) (ht : t.length ≤ 65535) (hl : s.length ≤ 1000000) :
    Calls Tryz.prog 232 #[.pointer (some ⟨g, 0, none⟩)] w fun e w' => e = .returned (.string (T t)) ∧ SRow w' g s (a + (txt t).length) ∧ w.grownBy w' (some g) := by
  rw [txt_len]
  have HG := lh (fun W => get_text s t a W hat ht hl)
  have HS := lh (show SRow w.drew g s a from h0.next (below_drew1 w))
  have HSN := lh (show SRow (w.drew.setCell ⟨g, 1, none⟩ (.int .i64 ((a + (t.length + 2) : Nat) : Int))) g s (a + (t.length + 2)) from heap_setCell_same w.drew g 1 _ _ (.int .i64 ((a + (t.length + 2) : Nat) : Int)) HS.out)
  have HGN := lh (show w.grownBy (w.drew.setCell ⟨g, 1, none⟩ (.int .i64 ((a + (t.length + 2) : Nat) : Int))) (some g) from (below_grownBy (below_drew1 w) (some g)).trans (grown_setG (below_grownBy (Below.refl _ w.drew) (some g)) 1 _))
  obtain ⟨⟨c0, c1, c2⟩, f1, f2⟩ := h0.reads
  clear h0 hat ht hl
  generalize hak : ((a + (t.length + 2) : Nat) : Int) = ak at *
  generalize (a : Int) = aa at *
  go_enter Tryz.func232, Tryz.ntmps232
  go_upto_region 3 with fail
  go_region_held3 (fun W' => W'.cell? ⟨g, 0, none⟩ = some (.string (T s)) ∧ W'.cell? ⟨g, 1, none⟩ = some (.int .i64 aa)) (first | (with_reducible assumption) | (exact ⟨c0, c1⟩)) (first | (go_at_call 129; (with_reducible refine (HG.out _).mono ?_); rintro e w4 ⟨rfl, rfl⟩))
  go_wp2_with fail
  go_ret
  exact ⟨rfl, HSN.out, HGN.out⟩
/-- One field of a description stored anew. -/
theorem ds_set {W : World} {g : Nat} {m m' : Mg} {t : TypeId} (h : W.heap[g]? = some (.cells m.ds.toArray t)) (i : Nat) (v : Value) (e : m.ds.toArray.setIfInBounds i v = m'.ds.toArray) : (W.setCell ⟨g, i, none⟩ v).heap[g]? = some (.cells m'.ds.toArray t) := by
  have := heap_setCell_same W g i _ _ v h
  rw [this, e]
theorem at_grow {W W2 : World} {g b : Nat} {o : Option Obj} (h : W.heap[b]? = o) (hg : W.grownBy W2 (some g)) (hb : b < W.heap.size) (hne : b ≠ g) : W2.heap[b]? = o := (hg.block b hb (fun e => hne (Option.some.inj e))).trans h
/-- The parts of a description's bytes. -/
theorem dirc_parts (m : Mg) : dirc m = knum (m.st, 2, 65534) ++ (knum (m.sd, 4, 4294967294) ++ (knum (m.s0, 1, 232) ++ (knum (m.s1, 4, 2147483647) ++ (knum (m.s2, 8, 1099511627776) ++ (knum (m.sm, 4, 3892314623) ++ (knum (m.sat, 8, 1099511627776) ++ (knum (m.smt, 8, 1099511627776) ++ (knum (m.sl, 8, 9007199254740991) ++ (txt m.sn ++ (txt m.su ++ (txt m.sg ++ (txt m.smu)))))))))))) := by simp [dirc, dnums, dtxts]
theorem dirc_at (m : Mg) : At (dirc m) 0 (knum (m.st, 2, 65534)) ∧ At (dirc m) 2 (knum (m.sd, 4, 4294967294)) ∧ At (dirc m) 6 (knum (m.s0, 1, 232)) ∧ At (dirc m) 7 (knum (m.s1, 4, 2147483647)) ∧ At (dirc m) 11 (knum (m.s2, 8, 1099511627776)) ∧ At (dirc m) 19 (knum (m.sm, 4, 3892314623)) ∧ At (dirc m) 23 (knum (m.sat, 8, 1099511627776)) ∧ At (dirc m) 31 (knum (m.smt, 8, 1099511627776)) ∧ At (dirc m) 39 (knum (m.sl, 8, 9007199254740991)) ∧ At (dirc m) 47 (txt m.sn) ∧ At (dirc m) (47 + (txt m.sn).length) (txt m.su) ∧ At (dirc m) (47 + (txt m.sn).length + (txt m.su).length) (txt m.sg) ∧ At (dirc m) (47 + (txt m.sn).length + (txt m.su).length + (txt m.sg).length) (txt m.smu) := by
  have h : At (dirc m) 0 (knum (m.st, 2, 65534) ++ (knum (m.sd, 4, 4294967294) ++ (knum (m.s0, 1, 232) ++ (knum (m.s1, 4, 2147483647) ++ (knum (m.s2, 8, 1099511627776) ++ (knum (m.sm, 4, 3892314623) ++ (knum (m.sat, 8, 1099511627776) ++ (knum (m.smt, 8, 1099511627776) ++ (knum (m.sl, 8, 9007199254740991) ++ (txt m.sn ++ (txt m.su ++ (txt m.sg ++ (txt m.smu))))))))))))) := ⟨[], [], by rw [dirc_parts]; simp, rfl⟩
  have kl : ∀ (n : Int) (k : Nat) (z : Int), (knum (n, k, z)).length = k := fun n k z => knum_len _
  have l0 := h.left
  have h := h.right
  rw [kl] at h
  have l1 := h.left
  have h := h.right
  rw [kl] at h
  have l2 := h.left
  have h := h.right
  rw [kl] at h
  have l3 := h.left
  have h := h.right
  rw [kl] at h
  have l4 := h.left
  have h := h.right
  rw [kl] at h
  have l5 := h.left
  have h := h.right
  rw [kl] at h
  have l6 := h.left
  have h := h.right
  rw [kl] at h
  have l7 := h.left
  have h := h.right
  rw [kl] at h
  have l8 := h.left
  have h := h.right
  rw [kl] at h
  have l9 := h.left
  have h := h.right
  have l10 := h.left
  have h := h.right
  have l11 := h.left
  have h := h.right
  exact ⟨l0, l1, l2, l3, l4, l5, l6, l7, l8, l9, l10, l11, h⟩
theorem dirc_len (m : Mg) : (dirc m).length = 47 + (txt m.sn).length + (txt m.su).length + (txt m.sg).length + (txt m.smu).length := by
  rw [dirc_parts]
  simp only [List.length_append, knum_len]
  omega
theorem dirb_len0 (m : Mg) (h : DirOk m) : (dirc m).length ≤ 400 := by
  rw [dirc_len, txt_len, txt_len, txt_len, txt_len]
  have h0 := dtxts_len m h 0 (by show 0 < 4; omega)
  have h1 := dtxts_len m h 1 (by show 1 < 4; omega)
  have h2 := dtxts_len m h 2 (by show 2 < 4; omega)
  have h3 := dtxts_len m h 3 (by show 3 < 4; omega)
  simp [dtxts] at h0 h1 h2 h3
  omega
/-- A change of a block that is new leaves the old ones alone. -/
theorem grown_fresh {w W W2 : World} {g b : Nat} (h : w.grownBy W (some g)) (h2 : W.grownBy W2 (some b)) (hb : w.heap.size ≤ b) : w.grownBy W2 (some g) :=
  ⟨h2.os.trans h.os, h2.tape.trans h.tape, h2.output.trans h.output, Nat.le_trans h.size h2.size, fun i hi hn => (h2.block i (Nat.lt_of_lt_of_le hi h.size) (fun e => by have := Option.some.inj e; omega)).trans (h.block i hi hn)⟩
theorem sread_any (g : Nat) (m : Mg) (w : World) (h0 : SRow w g (dirc m) 0) (hd : DirOk m) :
    Calls Tryz.prog 195 #[.pointer (some ⟨g, 0, none⟩)] w fun e w' => e = .returned (.agg m.ds.toArray) ∧ SRow w' g (dirc m) (dirc m).length ∧ w.grownBy w' (some g) := by
  have hlb := dirb_len0 m hd
  obtain ⟨q0, q1, q2, q3, q4, q5, q6, q7, q8, q9, q10, q11, q12⟩ := dirc_at m
  have hb := hd.1
  have htl := dtxts_len m hd
  have HN0 := lh (fun (W : World) (h : SRow W g (dirc m) 0) => show Calls Tryz.prog 231 #[.pointer (some ⟨g, 0, none⟩), .int .i64 2] W fun e w' => e = .returned (.int .i64 m.st) ∧ SRow w' g (dirc m) 2 ∧ W.grownBy w' (some g) from by
    have hx : -1 ≤ m.st ∧ m.st ≤ 65534 := hb (m.st, 2, 65534) (by simp [dnums])
    exact snum_any g (dirc m) 0 m.st 2 65534 W h q0 (by omega) (by omega) hx.1 (by omega) (by omega) (by omega))
  have HN1 := lh (fun (W : World) (h : SRow W g (dirc m) 2) => show Calls Tryz.prog 231 #[.pointer (some ⟨g, 0, none⟩), .int .i64 4] W fun e w' => e = .returned (.int .i64 m.sd) ∧ SRow w' g (dirc m) 6 ∧ W.grownBy w' (some g) from by
    have hx : -1 ≤ m.sd ∧ m.sd ≤ 4294967294 := hb (m.sd, 4, 4294967294) (by simp [dnums])
    exact snum_any g (dirc m) 2 m.sd 4 4294967294 W h q1 (by omega) (by omega) hx.1 (by omega) (by omega) (by omega))
  have HN2 := lh (fun (W : World) (h : SRow W g (dirc m) 6) => show Calls Tryz.prog 231 #[.pointer (some ⟨g, 0, none⟩), .int .i64 1] W fun e w' => e = .returned (.int .i64 m.s0) ∧ SRow w' g (dirc m) 7 ∧ W.grownBy w' (some g) from by
    have hx : -1 ≤ m.s0 ∧ m.s0 ≤ 232 := hb (m.s0, 1, 232) (by simp [dnums])
    exact snum_any g (dirc m) 6 m.s0 1 232 W h q2 (by omega) (by omega) hx.1 (by omega) (by omega) (by omega))
  have HN3 := lh (fun (W : World) (h : SRow W g (dirc m) 7) => show Calls Tryz.prog 231 #[.pointer (some ⟨g, 0, none⟩), .int .i64 4] W fun e w' => e = .returned (.int .i64 m.s1) ∧ SRow w' g (dirc m) 11 ∧ W.grownBy w' (some g) from by
    have hx : -1 ≤ m.s1 ∧ m.s1 ≤ 2147483647 := hb (m.s1, 4, 2147483647) (by simp [dnums])
    exact snum_any g (dirc m) 7 m.s1 4 2147483647 W h q3 (by omega) (by omega) hx.1 (by omega) (by omega) (by omega))
  have HN4 := lh (fun (W : World) (h : SRow W g (dirc m) 11) => show Calls Tryz.prog 231 #[.pointer (some ⟨g, 0, none⟩), .int .i64 8] W fun e w' => e = .returned (.int .i64 m.s2) ∧ SRow w' g (dirc m) 19 ∧ W.grownBy w' (some g) from by
    have hx : -1 ≤ m.s2 ∧ m.s2 ≤ 1099511627776 := hb (m.s2, 8, 1099511627776) (by simp [dnums])
    exact snum_any g (dirc m) 11 m.s2 8 1099511627776 W h q4 (by omega) (by omega) hx.1 (by omega) (by omega) (by omega))
  have HN5 := lh (fun (W : World) (h : SRow W g (dirc m) 19) => show Calls Tryz.prog 231 #[.pointer (some ⟨g, 0, none⟩), .int .i64 4] W fun e w' => e = .returned (.int .i64 m.sm) ∧ SRow w' g (dirc m) 23 ∧ W.grownBy w' (some g) from by
    have hx : -1 ≤ m.sm ∧ m.sm ≤ 3892314623 := hb (m.sm, 4, 3892314623) (by simp [dnums])
    exact snum_any g (dirc m) 19 m.sm 4 3892314623 W h q5 (by omega) (by omega) hx.1 (by omega) (by omega) (by omega))
  have HN6 := lh (fun (W : World) (h : SRow W g (dirc m) 23) => show Calls Tryz.prog 231 #[.pointer (some ⟨g, 0, none⟩), .int .i64 8] W fun e w' => e = .returned (.int .i64 m.sat) ∧ SRow w' g (dirc m) 31 ∧ W.grownBy w' (some g) from by
    have hx : -1 ≤ m.sat ∧ m.sat ≤ 1099511627776 := hb (m.sat, 8, 1099511627776) (by simp [dnums])
    exact snum_any g (dirc m) 23 m.sat 8 1099511627776 W h q6 (by omega) (by omega) hx.1 (by omega) (by omega) (by omega))
  have HN7 := lh (fun (W : World) (h : SRow W g (dirc m) 31) => show Calls Tryz.prog 231 #[.pointer (some ⟨g, 0, none⟩), .int .i64 8] W fun e w' => e = .returned (.int .i64 m.smt) ∧ SRow w' g (dirc m) 39 ∧ W.grownBy w' (some g) from by
    have hx : -1 ≤ m.smt ∧ m.smt ≤ 1099511627776 := hb (m.smt, 8, 1099511627776) (by simp [dnums])
    exact snum_any g (dirc m) 31 m.smt 8 1099511627776 W h q7 (by omega) (by omega) hx.1 (by omega) (by omega) (by omega))
  have HN8 := lh (fun (W : World) (h : SRow W g (dirc m) 39) => show Calls Tryz.prog 231 #[.pointer (some ⟨g, 0, none⟩), .int .i64 8] W fun e w' => e = .returned (.int .i64 m.sl) ∧ SRow w' g (dirc m) 47 ∧ W.grownBy w' (some g) from by
    have hx : -1 ≤ m.sl ∧ m.sl ≤ 9007199254740991 := hb (m.sl, 8, 9007199254740991) (by simp [dnums])
    exact snum_any g (dirc m) 39 m.sl 8 9007199254740991 W h q8 (by omega) (by omega) hx.1 (by omega) (by omega) (by omega))
  have HX0 := lh (fun (W : World) (h : SRow W g (dirc m) 47) => show Calls Tryz.prog 232 #[.pointer (some ⟨g, 0, none⟩)] W fun e w' => e = .returned (.string (T m.sn)) ∧ SRow w' g (dirc m) (47 + (txt m.sn).length) ∧ W.grownBy w' (some g) from stext_any g (dirc m) m.sn 47 W h q9 (by have := htl 0 (by show 0 < 4; omega); simp [dtxts] at this; omega) (by omega))
  have HX1 := lh (fun (W : World) (h : SRow W g (dirc m) (47 + (txt m.sn).length)) => show Calls Tryz.prog 232 #[.pointer (some ⟨g, 0, none⟩)] W fun e w' => e = .returned (.string (T m.su)) ∧ SRow w' g (dirc m) (47 + (txt m.sn).length + (txt m.su).length) ∧ W.grownBy w' (some g) from stext_any g (dirc m) m.su (47 + (txt m.sn).length) W h q10 (by have := htl 1 (by show 1 < 4; omega); simp [dtxts] at this; omega) (by omega))
  have HX2 := lh (fun (W : World) (h : SRow W g (dirc m) (47 + (txt m.sn).length + (txt m.su).length)) => show Calls Tryz.prog 232 #[.pointer (some ⟨g, 0, none⟩)] W fun e w' => e = .returned (.string (T m.sg)) ∧ SRow w' g (dirc m) (47 + (txt m.sn).length + (txt m.su).length + (txt m.sg).length) ∧ W.grownBy w' (some g) from stext_any g (dirc m) m.sg (47 + (txt m.sn).length + (txt m.su).length) W h q11 (by have := htl 2 (by show 2 < 4; omega); simp [dtxts] at this; omega) (by omega))
  have HX3 := lh (fun (W : World) (h : SRow W g (dirc m) (47 + (txt m.sn).length + (txt m.su).length + (txt m.sg).length)) => show Calls Tryz.prog 232 #[.pointer (some ⟨g, 0, none⟩)] W fun e w' => e = .returned (.string (T m.smu)) ∧ SRow w' g (dirc m) (47 + (txt m.sn).length + (txt m.su).length + (txt m.sg).length + (txt m.smu).length) ∧ W.grownBy w' (some g) from stext_any g (dirc m) m.smu (47 + (txt m.sn).length + (txt m.su).length + (txt m.sg).length) W h q12 (by have := htl 3 (by show 3 < 4; omega); simp [dtxts] at this; omega) (by omega))
  have HLE := lh (dirc_len m)
  have HS := lh h0
  clear h0 hd hlb hb htl q0 q1 q2 q3 q4 q5 q6 q7 q8 q9 q10 q11 q12
  generalize dirc m = s at *
  generalize (47 + (txt m.sn).length + (txt m.su).length + (txt m.sg).length + (txt m.smu).length) = o4 at *
  generalize (47 + (txt m.sn).length + (txt m.su).length + (txt m.sg).length) = o3 at *
  generalize (47 + (txt m.sn).length + (txt m.su).length) = o2 at *
  generalize (47 + (txt m.sn).length) = o1 at *
  have HDA := lh (fun (W : World) => alloc_below W (.cells mg0.ds.toArray 46))
  have HST2 := lh (fun (W : World) (b : Nat) (h : W.heap[b]? = some (.cells ({ mg0 with st := m.st, sd := m.sd } : Mg).ds.toArray 46 (0, 0))) => show (W.cell? ⟨b, 2, none⟩ = some (.int .i64 0) ∧ W.cell? ⟨b, 3, none⟩ = some (.int .i64 0) ∧ W.cell? ⟨b, 4, none⟩ = some (.int .i64 0)) ∧ (W.frozen? ⟨b, 2, none⟩ = false ∧ W.frozen? ⟨b, 3, none⟩ = false ∧ W.frozen? ⟨b, 4, none⟩ = false) ∧ (((W.setCell ⟨b, 2, none⟩ (.int .i64 m.s0)).setCell ⟨b, 3, none⟩ (.int .i64 m.s1)).setCell ⟨b, 4, none⟩ (.int .i64 m.s2)).heap[b]? = some (.cells ({ mg0 with st := m.st, sd := m.sd, s0 := m.s0, s1 := m.s1, s2 := m.s2 } : Mg).ds.toArray 46 (0, 0)) from ⟨⟨by rw [Lib.cell_of_heap h]; rfl, by rw [Lib.cell_of_heap h]; rfl, by rw [Lib.cell_of_heap h]; rfl⟩, ⟨Lib.frozen_of_heap h _, Lib.frozen_of_heap h _, Lib.frozen_of_heap h _⟩, (ds_set (m := ({ mg0 with st := m.st, sd := m.sd, s0 := m.s0, s1 := m.s1 } : Mg)) (m' := ({ mg0 with st := m.st, sd := m.sd, s0 := m.s0, s1 := m.s1, s2 := m.s2 } : Mg)) (ds_set (m := ({ mg0 with st := m.st, sd := m.sd, s0 := m.s0 } : Mg)) (m' := ({ mg0 with st := m.st, sd := m.sd, s0 := m.s0, s1 := m.s1 } : Mg)) (ds_set (m := ({ mg0 with st := m.st, sd := m.sd } : Mg)) (m' := ({ mg0 with st := m.st, sd := m.sd, s0 := m.s0 } : Mg)) h 2 (.int .i64 m.s0) rfl) 3 (.int .i64 m.s1) rfl) 4 (.int .i64 m.s2) rfl)⟩)
  have HST5 := lh (fun (W : World) (b : Nat) (h : W.heap[b]? = some (.cells ({ mg0 with st := m.st, sd := m.sd, s0 := m.s0, s1 := m.s1, s2 := m.s2 } : Mg).ds.toArray 46 (0, 0))) => show (W.cell? ⟨b, 5, none⟩ = some (.int .i64 0) ∧ W.cell? ⟨b, 6, none⟩ = some (.int .i64 0) ∧ W.cell? ⟨b, 7, none⟩ = some (.int .i64 0) ∧ W.cell? ⟨b, 8, none⟩ = some (.int .i64 0)) ∧ (W.frozen? ⟨b, 5, none⟩ = false ∧ W.frozen? ⟨b, 6, none⟩ = false ∧ W.frozen? ⟨b, 7, none⟩ = false ∧ W.frozen? ⟨b, 8, none⟩ = false) ∧ ((((W.setCell ⟨b, 5, none⟩ (.int .i64 m.sm)).setCell ⟨b, 6, none⟩ (.int .i64 m.sat)).setCell ⟨b, 7, none⟩ (.int .i64 m.smt)).setCell ⟨b, 8, none⟩ (.int .i64 m.sl)).heap[b]? = some (.cells ({ mg0 with st := m.st, sd := m.sd, s0 := m.s0, s1 := m.s1, s2 := m.s2, sm := m.sm, sat := m.sat, smt := m.smt, sl := m.sl } : Mg).ds.toArray 46 (0, 0)) from ⟨⟨by rw [Lib.cell_of_heap h]; rfl, by rw [Lib.cell_of_heap h]; rfl, by rw [Lib.cell_of_heap h]; rfl, by rw [Lib.cell_of_heap h]; rfl⟩, ⟨Lib.frozen_of_heap h _, Lib.frozen_of_heap h _, Lib.frozen_of_heap h _, Lib.frozen_of_heap h _⟩, (ds_set (m := ({ mg0 with st := m.st, sd := m.sd, s0 := m.s0, s1 := m.s1, s2 := m.s2, sm := m.sm, sat := m.sat, smt := m.smt } : Mg)) (m' := ({ mg0 with st := m.st, sd := m.sd, s0 := m.s0, s1 := m.s1, s2 := m.s2, sm := m.sm, sat := m.sat, smt := m.smt, sl := m.sl } : Mg)) (ds_set (m := ({ mg0 with st := m.st, sd := m.sd, s0 := m.s0, s1 := m.s1, s2 := m.s2, sm := m.sm, sat := m.sat } : Mg)) (m' := ({ mg0 with st := m.st, sd := m.sd, s0 := m.s0, s1 := m.s1, s2 := m.s2, sm := m.sm, sat := m.sat, smt := m.smt } : Mg)) (ds_set (m := ({ mg0 with st := m.st, sd := m.sd, s0 := m.s0, s1 := m.s1, s2 := m.s2, sm := m.sm } : Mg)) (m' := ({ mg0 with st := m.st, sd := m.sd, s0 := m.s0, s1 := m.s1, s2 := m.s2, sm := m.sm, sat := m.sat } : Mg)) (ds_set (m := ({ mg0 with st := m.st, sd := m.sd, s0 := m.s0, s1 := m.s1, s2 := m.s2 } : Mg)) (m' := ({ mg0 with st := m.st, sd := m.sd, s0 := m.s0, s1 := m.s1, s2 := m.s2, sm := m.sm } : Mg)) h 5 (.int .i64 m.sm) rfl) 6 (.int .i64 m.sat) rfl) 7 (.int .i64 m.smt) rfl) 8 (.int .i64 m.sl) rfl)⟩)
  have HST9 := lh (fun (W : World) (b : Nat) (h : W.heap[b]? = some (.cells ({ mg0 with st := m.st, sd := m.sd, s0 := m.s0, s1 := m.s1, s2 := m.s2, sm := m.sm, sat := m.sat, smt := m.smt, sl := m.sl } : Mg).ds.toArray 46 (0, 0))) => show (W.cell? ⟨b, 9, none⟩ = some (.string (T [])) ∧ W.cell? ⟨b, 10, none⟩ = some (.string (T [])) ∧ W.cell? ⟨b, 11, none⟩ = some (.string (T [])) ∧ W.cell? ⟨b, 12, none⟩ = some (.string (T []))) ∧ (W.frozen? ⟨b, 9, none⟩ = false ∧ W.frozen? ⟨b, 10, none⟩ = false ∧ W.frozen? ⟨b, 11, none⟩ = false ∧ W.frozen? ⟨b, 12, none⟩ = false) ∧ ((((W.setCell ⟨b, 9, none⟩ (.string (T m.sn))).setCell ⟨b, 10, none⟩ (.string (T m.su))).setCell ⟨b, 11, none⟩ (.string (T m.sg))).setCell ⟨b, 12, none⟩ (.string (T m.smu))).heap[b]? = some (.cells ({ mg0 with st := m.st, sd := m.sd, s0 := m.s0, s1 := m.s1, s2 := m.s2, sm := m.sm, sat := m.sat, smt := m.smt, sl := m.sl, sn := m.sn, su := m.su, sg := m.sg, smu := m.smu } : Mg).ds.toArray 46 (0, 0)) from ⟨⟨by rw [Lib.cell_of_heap h]; rfl, by rw [Lib.cell_of_heap h]; rfl, by rw [Lib.cell_of_heap h]; rfl, by rw [Lib.cell_of_heap h]; rfl⟩, ⟨Lib.frozen_of_heap h _, Lib.frozen_of_heap h _, Lib.frozen_of_heap h _, Lib.frozen_of_heap h _⟩, (ds_set (m := ({ mg0 with st := m.st, sd := m.sd, s0 := m.s0, s1 := m.s1, s2 := m.s2, sm := m.sm, sat := m.sat, smt := m.smt, sl := m.sl, sn := m.sn, su := m.su, sg := m.sg } : Mg)) (m' := ({ mg0 with st := m.st, sd := m.sd, s0 := m.s0, s1 := m.s1, s2 := m.s2, sm := m.sm, sat := m.sat, smt := m.smt, sl := m.sl, sn := m.sn, su := m.su, sg := m.sg, smu := m.smu } : Mg)) (ds_set (m := ({ mg0 with st := m.st, sd := m.sd, s0 := m.s0, s1 := m.s1, s2 := m.s2, sm := m.sm, sat := m.sat, smt := m.smt, sl := m.sl, sn := m.sn, su := m.su } : Mg)) (m' := ({ mg0 with st := m.st, sd := m.sd, s0 := m.s0, s1 := m.s1, s2 := m.s2, sm := m.sm, sat := m.sat, smt := m.smt, sl := m.sl, sn := m.sn, su := m.su, sg := m.sg } : Mg)) (ds_set (m := ({ mg0 with st := m.st, sd := m.sd, s0 := m.s0, s1 := m.s1, s2 := m.s2, sm := m.sm, sat := m.sat, smt := m.smt, sl := m.sl, sn := m.sn } : Mg)) (m' := ({ mg0 with st := m.st, sd := m.sd, s0 := m.s0, s1 := m.s1, s2 := m.s2, sm := m.sm, sat := m.sat, smt := m.smt, sl := m.sl, sn := m.sn, su := m.su } : Mg)) (ds_set (m := ({ mg0 with st := m.st, sd := m.sd, s0 := m.s0, s1 := m.s1, s2 := m.s2, sm := m.sm, sat := m.sat, smt := m.smt, sl := m.sl } : Mg)) (m' := ({ mg0 with st := m.st, sd := m.sd, s0 := m.s0, s1 := m.s1, s2 := m.s2, sm := m.sm, sat := m.sat, smt := m.smt, sl := m.sl, sn := m.sn } : Mg)) h 9 (.string (T m.sn)) rfl) 10 (.string (T m.su)) rfl) 11 (.string (T m.sg)) rfl) 12 (.string (T m.smu)) rfl)⟩)
  have HFIN : RowKit.Hid (({ mg0 with st := m.st, sd := m.sd, s0 := m.s0, s1 := m.s1, s2 := m.s2, sm := m.sm, sat := m.sat, smt := m.smt, sl := m.sl, sn := m.sn, su := m.su, sg := m.sg, smu := m.smu } : Mg).ds.toArray = m.ds.toArray) := lh rfl
  have HU := lh (Tryz.underlying46)
  have HZ := lh (show ∀ x : Mg, (Tryz.prog.info? 46).map (·.size) = some x.ds.toArray.size from fun x => by show _ = some 13; kernel_rfl)
  have HAL := lh (show ∀ x : Mg, x.ds.toArray.all (·.oneCell') = true from fun x => all_oneCell_toArray (by intro u hu; simp only [Mg.ds, List.mem_cons, List.not_mem_nil, or_false] at hu; rcases hu with rfl | rfl | rfl | rfl | rfl | rfl | rfl | rfl | rfl | rfl | rfl | rfl | rfl <;> rfl))
  have HBU : RowKit.Hid (Tryz.prog.built 46 [(0, .int .i64 m.st), (1, .int .i64 m.sd)] = some ({ mg0 with st := m.st, sd := m.sd } : Mg).ds.toArray) := lh (by kernel_rfl)
  have HZ2 := lh (HZ.out ({ mg0 with st := m.st, sd := m.sd } : Mg))
  have HZ5 := lh (HZ.out ({ mg0 with st := m.st, sd := m.sd, s0 := m.s0, s1 := m.s1, s2 := m.s2 } : Mg))
  have HZ9 := lh (HZ.out ({ mg0 with st := m.st, sd := m.sd, s0 := m.s0, s1 := m.s1, s2 := m.s2, sm := m.sm, sat := m.sat, smt := m.smt, sl := m.sl } : Mg))
  have HZ13 := lh (HZ.out ({ mg0 with st := m.st, sd := m.sd, s0 := m.s0, s1 := m.s1, s2 := m.s2, sm := m.sm, sat := m.sat, smt := m.smt, sl := m.sl, sn := m.sn, su := m.su, sg := m.sg, smu := m.smu } : Mg))
  have HZ0 := lh (HZ.out mg0)
  have HAL2 := lh (HAL.out ({ mg0 with st := m.st, sd := m.sd } : Mg))
  have HAL13 := lh (HAL.out ({ mg0 with st := m.st, sd := m.sd, s0 := m.s0, s1 := m.s1, s2 := m.s2, sm := m.sm, sat := m.sat, smt := m.smt, sl := m.sl, sn := m.sn, su := m.su, sg := m.sg, smu := m.smu } : Mg))
  have HSY2 : RowKit.Hid (mg0.ds.toArray.size = ({ mg0 with st := m.st, sd := m.sd } : Mg).ds.toArray.size) := lh rfl
  have HSY13 : RowKit.Hid (mg0.ds.toArray.size = ({ mg0 with st := m.st, sd := m.sd, s0 := m.s0, s1 := m.s1, s2 := m.s2, sm := m.sm, sat := m.sat, smt := m.smt, sl := m.sl, sn := m.sn, su := m.su, sg := m.sg, smu := m.smu } : Mg).ds.toArray.size) := lh rfl
  generalize ({ mg0 with st := m.st, sd := m.sd } : Mg).ds.toArray = D2 at *
  generalize ({ mg0 with st := m.st, sd := m.sd, s0 := m.s0, s1 := m.s1, s2 := m.s2 } : Mg).ds.toArray = D5 at *
  generalize ({ mg0 with st := m.st, sd := m.sd, s0 := m.s0, s1 := m.s1, s2 := m.s2, sm := m.sm, sat := m.sat, smt := m.smt, sl := m.sl } : Mg).ds.toArray = D9 at *
  generalize ({ mg0 with st := m.st, sd := m.sd, s0 := m.s0, s1 := m.s1, s2 := m.s2, sm := m.sm, sat := m.sat, smt := m.smt, sl := m.sl, sn := m.sn, su := m.su, sg := m.sg, smu := m.smu } : Mg).ds.toArray = D13 at *
  generalize m.st = x0 at *
  generalize m.sd = x1 at *
  generalize m.s0 = x2 at *
  generalize m.s1 = x3 at *
  generalize m.s2 = x4 at *
  generalize m.sm = x5 at *
  generalize m.sat = x6 at *
  generalize m.smt = x7 at *
  generalize m.sl = x8 at *
  generalize m.sn = x9 at *
  generalize m.su = x10 at *
  generalize m.sg = x11 at *
  generalize m.smu = x12 at *
  clear HZ HAL
  go_enter Tryz.func195, Tryz.ntmps195
  have hz0 := heap_alloc_new w (.cells mg0.ds.toArray 46)
  go_upto_region 1 with fail
  generalize hw1 : World.alloc _ _ = w1
  have HK := lh (show w1.heap[w.heap.size]? = some (.cells mg0.ds.toArray 46) from by rw [← hw1]; exact hz0)
  have b1 := (show Below w.heap.size w w1 from by rw [← hw1]; exact HDA.out w)
  have HS1 := lh (HS.out.next b1)
  have HG1 := lh (below_grownBy b1 (some g))
  have hgw : g < w.heap.size := row_ltP HS.out
  clear HS b1 hw1 hz0
  go_wp2_with fail
  have hs := HS1.out
  (with_reducible refine (HN0.out _ hs).mono ?_); rintro e w2 ⟨rfl, hs2, g2⟩
  have HS2 := lh hs2
  have HK := lh (at_grow HK.out g2 (row_ltP HK.out) (by omega))
  have HG2 := lh (HG1.out.trans g2)
  clear hs hs2 g2 HS1 HG1 HN0
  go_wp2_with fail
  have hs := HS2.out
  (with_reducible refine (HN1.out _ hs).mono ?_); rintro e w3 ⟨rfl, hs2, g2⟩
  have HS3 := lh hs2
  have HK := lh (at_grow HK.out g2 (row_ltP HK.out) (by omega))
  have HG3 := lh (HG2.out.trans g2)
  clear hs hs2 g2 HS2 HG2 HN1
  have hzd := heap_alloc_new w3 (.cells mg0.ds.toArray 46)
  go_upto_region 2 with (first | refine wpList_build_at rfl 46 _ rfl D2 (by simp only [List.map_toArray, List.map_cons, List.map_nil]; exact HBU.out) ?_ | refine wpList_store_row rfl 46 _ _ rfl w3.heap.size D2 rfl rfl 46 mg0.ds.toArray hzd HZ2.out HSY2.out HAL2.out ?_)
  generalize hwx : World.setRow _ _ _ = wx
  have bx := (show Below w3.heap.size w3 wx from by rw [← hwx]; exact below_setRow (alloc_below w3 _) (Nat.le_refl _) _)
  have HD := lh (show wx.heap[w3.heap.size]? = some (.cells D2 46 (0, 0)) from by rw [← hwx]; exact heap_setRow_same (heap_alloc_new w3 _))
  have hgb : g < w3.heap.size := row_ltP HS3.out
  have hkb : w.heap.size < w3.heap.size := row_ltP HK.out
  have HS4 := lh (HS3.out.next bx)
  have HK := lh ((bx.block _ (row_ltP HK.out)).trans HK.out)
  have HG4 := lh (HG3.out.trans (below_grownBy bx (some g)))
  clear hzd bx hwx HS3 HG3
  have HBL := lh (HG4.out.size)
  generalize w3.heap.size = b at *
  have hnew : w.heap.size ≤ b := by omega
  go_wp2_with fail
  have hs := HS4.out
  (with_reducible refine (HN2.out _ hs).mono ?_); rintro e w5 ⟨rfl, hs2, g2⟩
  have HS5 := lh hs2
  have HK := lh (at_grow HK.out g2 (row_ltP HK.out) (by omega))
  have HD := lh (at_grow HD.out g2 (row_ltP HD.out) (by omega))
  have HG5 := lh (HG4.out.trans g2)
  clear hs hs2 g2 HS4 HG4 HN2
  go_wp2_with fail
  have hs := HS5.out
  (with_reducible refine (HN3.out _ hs).mono ?_); rintro e w6 ⟨rfl, hs2, g2⟩
  have HS6 := lh hs2
  have HK := lh (at_grow HK.out g2 (row_ltP HK.out) (by omega))
  have HD := lh (at_grow HD.out g2 (row_ltP HD.out) (by omega))
  have HG6 := lh (HG5.out.trans g2)
  clear hs hs2 g2 HS5 HG5 HN3
  go_wp2_with fail
  have hs := HS6.out
  (with_reducible refine (HN4.out _ hs).mono ?_); rintro e w7 ⟨rfl, hs2, g2⟩
  have HS7 := lh hs2
  have HK := lh (at_grow HK.out g2 (row_ltP HK.out) (by omega))
  have HD := lh (at_grow HD.out g2 (row_ltP HD.out) (by omega))
  have HG7 := lh (HG6.out.trans g2)
  clear hs hs2 g2 HS6 HG6 HN4
  obtain ⟨⟨d2, d3, d4⟩, ⟨f2, f3, f4⟩, k3⟩ := HST2.out _ _ HD.out
  have HD2 := lh k3
  clear k3
  have bst := ((((Below.refl b w7).setCell (p := ⟨b, 2, none⟩) (Nat.le_refl _) (.int .i64 x2)).setCell (p := ⟨b, 3, none⟩) (Nat.le_refl _) (.int .i64 x3)).setCell (p := ⟨b, 4, none⟩) (Nat.le_refl _) (.int .i64 x4))
  have HS8 := lh (show SRow (((w7.setCell ⟨b, 2, none⟩ (.int .i64 x2)).setCell ⟨b, 3, none⟩ (.int .i64 x3)).setCell ⟨b, 4, none⟩ (.int .i64 x4)) g s _ from (bst.block _ hgb).trans HS7.out)
  have HK2 := lh ((bst.block _ hkb).trans HK.out)
  have HG8 := lh (grown_fresh HG7.out (grown_setG (grown_setG (grown_setG (below_grownBy (Below.refl _ w7) (some b)) 2 (.int .i64 x2)) 3 (.int .i64 x3)) 4 (.int .i64 x4)) hnew)
  clear bst HD HK HS7 HG7
  go_upto_region 3 with fail
  generalize (((w7.setCell ⟨b, 2, none⟩ (.int .i64 x2)).setCell ⟨b, 3, none⟩ (.int .i64 x3)).setCell ⟨b, 4, none⟩ (.int .i64 x4)) = y3 at *
  clear d2 f2 d3 f3 d4 f4 HST2
  have HD := lh HD2.out
  have HK := lh HK2.out
  clear HD2 HK2
  go_wp2_with fail
  have hs := HS8.out
  (with_reducible refine (HN5.out _ hs).mono ?_); rintro e w9 ⟨rfl, hs2, g2⟩
  have HS9 := lh hs2
  have HK := lh (at_grow HK.out g2 (row_ltP HK.out) (by omega))
  have HD := lh (at_grow HD.out g2 (row_ltP HD.out) (by omega))
  have HG9 := lh (HG8.out.trans g2)
  clear hs hs2 g2 HS8 HG8 HN5
  go_wp2_with fail
  have hs := HS9.out
  (with_reducible refine (HN6.out _ hs).mono ?_); rintro e w10 ⟨rfl, hs2, g2⟩
  have HS10 := lh hs2
  have HK := lh (at_grow HK.out g2 (row_ltP HK.out) (by omega))
  have HD := lh (at_grow HD.out g2 (row_ltP HD.out) (by omega))
  have HG10 := lh (HG9.out.trans g2)
  clear hs hs2 g2 HS9 HG9 HN6
  go_wp2_with fail
  have hs := HS10.out
  (with_reducible refine (HN7.out _ hs).mono ?_); rintro e w11 ⟨rfl, hs2, g2⟩
  have HS11 := lh hs2
  have HK := lh (at_grow HK.out g2 (row_ltP HK.out) (by omega))
  have HD := lh (at_grow HD.out g2 (row_ltP HD.out) (by omega))
  have HG11 := lh (HG10.out.trans g2)
  clear hs hs2 g2 HS10 HG10 HN7
  go_wp2_with fail
  have hs := HS11.out
  (with_reducible refine (HN8.out _ hs).mono ?_); rintro e w12 ⟨rfl, hs2, g2⟩
  have HS12 := lh hs2
  have HK := lh (at_grow HK.out g2 (row_ltP HK.out) (by omega))
  have HD := lh (at_grow HD.out g2 (row_ltP HD.out) (by omega))
  have HG12 := lh (HG11.out.trans g2)
  clear hs hs2 g2 HS11 HG11 HN8
  obtain ⟨⟨d5, d6, d7, d8⟩, ⟨f5, f6, f7, f8⟩, k3⟩ := HST5.out _ _ HD.out
  have HD2 := lh k3
  clear k3
  have bst := (((((Below.refl b w12).setCell (p := ⟨b, 5, none⟩) (Nat.le_refl _) (.int .i64 x5)).setCell (p := ⟨b, 6, none⟩) (Nat.le_refl _) (.int .i64 x6)).setCell (p := ⟨b, 7, none⟩) (Nat.le_refl _) (.int .i64 x7)).setCell (p := ⟨b, 8, none⟩) (Nat.le_refl _) (.int .i64 x8))
  have HS13 := lh (show SRow ((((w12.setCell ⟨b, 5, none⟩ (.int .i64 x5)).setCell ⟨b, 6, none⟩ (.int .i64 x6)).setCell ⟨b, 7, none⟩ (.int .i64 x7)).setCell ⟨b, 8, none⟩ (.int .i64 x8)) g s _ from (bst.block _ hgb).trans HS12.out)
  have HK2 := lh ((bst.block _ hkb).trans HK.out)
  have HG13 := lh (grown_fresh HG12.out (grown_setG (grown_setG (grown_setG (grown_setG (below_grownBy (Below.refl _ w12) (some b)) 5 (.int .i64 x5)) 6 (.int .i64 x6)) 7 (.int .i64 x7)) 8 (.int .i64 x8)) hnew)
  clear bst HD HK HS12 HG12
  go_upto_region 4 with fail
  generalize ((((w12.setCell ⟨b, 5, none⟩ (.int .i64 x5)).setCell ⟨b, 6, none⟩ (.int .i64 x6)).setCell ⟨b, 7, none⟩ (.int .i64 x7)).setCell ⟨b, 8, none⟩ (.int .i64 x8)) = y4 at *
  clear d5 f5 d6 f6 d7 f7 d8 f8 HST5
  have HD := lh HD2.out
  have HK := lh HK2.out
  clear HD2 HK2
  go_wp2_with fail
  have hs := HS13.out
  (with_reducible refine (HX0.out _ hs).mono ?_); rintro e w14 ⟨rfl, hs2, g2⟩
  have HS14 := lh hs2
  have HK := lh (at_grow HK.out g2 (row_ltP HK.out) (by omega))
  have HD := lh (at_grow HD.out g2 (row_ltP HD.out) (by omega))
  have HG14 := lh (HG13.out.trans g2)
  clear hs hs2 g2 HS13 HG13 HX0
  go_wp2_with fail
  have hs := HS14.out
  (with_reducible refine (HX1.out _ hs).mono ?_); rintro e w15 ⟨rfl, hs2, g2⟩
  have HS15 := lh hs2
  have HK := lh (at_grow HK.out g2 (row_ltP HK.out) (by omega))
  have HD := lh (at_grow HD.out g2 (row_ltP HD.out) (by omega))
  have HG15 := lh (HG14.out.trans g2)
  clear hs hs2 g2 HS14 HG14 HX1
  go_wp2_with fail
  have hs := HS15.out
  (with_reducible refine (HX2.out _ hs).mono ?_); rintro e w16 ⟨rfl, hs2, g2⟩
  have HS16 := lh hs2
  have HK := lh (at_grow HK.out g2 (row_ltP HK.out) (by omega))
  have HD := lh (at_grow HD.out g2 (row_ltP HD.out) (by omega))
  have HG16 := lh (HG15.out.trans g2)
  clear hs hs2 g2 HS15 HG15 HX2
  go_wp2_with fail
  have hs := HS16.out
  (with_reducible refine (HX3.out _ hs).mono ?_); rintro e w17 ⟨rfl, hs2, g2⟩
  have HS17 := lh hs2
  have HK := lh (at_grow HK.out g2 (row_ltP HK.out) (by omega))
  have HD := lh (at_grow HD.out g2 (row_ltP HD.out) (by omega))
  have HG17 := lh (HG16.out.trans g2)
  clear hs hs2 g2 HS16 HG16 HX3
  obtain ⟨⟨d9, d10, d11, d12⟩, ⟨f9, f10, f11, f12⟩, k3⟩ := HST9.out _ _ HD.out
  have HD2 := lh k3
  clear k3
  have bst := (((((Below.refl b w17).setCell (p := ⟨b, 9, none⟩) (Nat.le_refl _) (.string (T x9))).setCell (p := ⟨b, 10, none⟩) (Nat.le_refl _) (.string (T x10))).setCell (p := ⟨b, 11, none⟩) (Nat.le_refl _) (.string (T x11))).setCell (p := ⟨b, 12, none⟩) (Nat.le_refl _) (.string (T x12)))
  have HS18 := lh (show SRow ((((w17.setCell ⟨b, 9, none⟩ (.string (T x9))).setCell ⟨b, 10, none⟩ (.string (T x10))).setCell ⟨b, 11, none⟩ (.string (T x11))).setCell ⟨b, 12, none⟩ (.string (T x12))) g s _ from (bst.block _ hgb).trans HS17.out)
  have HK2 := lh ((bst.block _ hkb).trans HK.out)
  have HG18 := lh (grown_fresh HG17.out (grown_setG (grown_setG (grown_setG (grown_setG (below_grownBy (Below.refl _ w17) (some b)) 9 (.string (T x9))) 10 (.string (T x10))) 11 (.string (T x11))) 12 (.string (T x12))) hnew)
  clear bst HD HK HS17 HG17
  go_upto_region 5 with fail
  generalize ((((w17.setCell ⟨b, 9, none⟩ (.string (T x9))).setCell ⟨b, 10, none⟩ (.string (T x10))).setCell ⟨b, 11, none⟩ (.string (T x11))).setCell ⟨b, 12, none⟩ (.string (T x12))) = y5 at *
  clear d9 f9 d10 f10 d11 f11 d12 f12 HST9
  have HD := lh HD2.out
  have HK := lh HK2.out
  clear HD2 HK2
  go_wp2_with (first | refine wpList_load_row rfl 46 _ rfl b rfl 46 D13 (0, 0) _ HD.out HU.out rfl HZ13.out ?_ | refine wpList_store_row rfl 46 _ _ rfl w.heap.size D13 rfl rfl 46 mg0.ds.toArray HK.out HZ13.out HSY13.out HAL13.out ?_)
  rw [← HFIN.out]
  refine bodyPost_ret (v := .agg D13) (results_cell_row Tryz.results195 _ _ w.heap.size 46 D13 (0, 0) _ rfl (heap_setRow_same HK.out) HU.out rfl HZ13.out) rfl ⟨rfl, ?_, grown_fresh HG18.out (grown_setRow _) (Nat.le_refl _)⟩
  rw [HLE.out]
  exact ((grown_setRow D13).block _ (row_ltP HS18.out) (fun e => by have := Option.some.inj e; omega)).trans HS18.out
theorem ds_all (x : Mg) : x.ds.toArray.all (·.oneCell') = true := all_oneCell_toArray (by
  intro u hu
  simp only [Mg.ds, List.mem_cons, List.not_mem_nil, or_false] at hu
  rcases hu with rfl | rfl | rfl | rfl | rfl | rfl | rfl | rfl | rfl | rfl | rfl | rfl | rfl <;> rfl)
theorem ds_size (x : Mg) : (Tryz.prog.info? 46).map (·.size) = some x.ds.toArray.size := by show _ = some 13; kernel_rfl
theorem sget_any (m : Mg) (hd : DirOk m) (w : World) : Calls Tryz.prog 131 #[.string (T (dirb m)), .int .i64 0] w fun e w' => e = .returned (.tuple #[.agg m.ds.toArray, .int .i64 ((dirb m).length : Int), .int .i64 0]) ∧ Below w.heap.size w w' := by
  have hlb := dirb_len0 m hd
  have hel : (dirb m).length = (dirc m).length + 2 := txt_len _
  have hat : At (dirb m) 0 (Oct.le 2 (dirc m).length ++ dirc m) := ⟨[], [], by simp [dirb, txt], rfl⟩
  obtain ⟨h1, h2⟩ := at_num (k := 2) (N := (dirc m).length) hat.left (by omega) (by omega) (by omega) (by omega)
  have HG := lh (fun W => show Calls Tryz.prog 30 #[.string (T (dirb m)), .int .i64 0, .int .i64 2] W fun e w' => e = .returned (.tuple #[.int .i64 ((dirc m).length : Int), .int .i64 2, .int .i64 0]) ∧ w' = W from by
    have := get_num (dirb m) 0 2 W (by omega) (by omega) (by omega) (by omega) h1
    rw [h2] at this
    exact this)
  have hpt := hat.right.part
  rw [Oct.le_length] at hpt
  have HX := lh (show (T (dirb m)).extract 2 (2 + (dirc m).length) = T (dirc m) from by
    rw [extract_T, show (T (dirb m)).data.toList = dirb m from by simp [T], show 2 + (dirc m).length - 2 = (dirc m).length from by omega]
    rw [Nat.zero_add] at hpt
    rw [hpt])
  have HR := lh (fun (g : Nat) (W : World) (h : SRow W g (dirc m) 0) => sread_any g m W h hd)
  have HCK := lh (fun W => show Calls Tryz.prog 145 #[.agg m.ds.toArray] W fun e w' => e = .returned (.int .i64 0) ∧ Below W.heap.size W w' from
    (dcheck_any m (by have := dtxts_len m hd 0 (by show 0 < 4; omega); simp [dtxts] at this; omega) W).mono fun e w' h => by
      obtain ⟨k, h1, h2, h3⟩ := h
      rw [h2.2 hd] at h1
      exact ⟨h1, h3⟩)
  have hsz : (T (dirb m)).size = (dirb m).length := T_size _
  have HU := lh (Tryz.underlying46)
  have HZ := lh (ds_size m)
  have HAL := lh (ds_all m)
  have HSY : RowKit.Hid (mg0.ds.toArray.size = m.ds.toArray.size) := lh rfl
  clear hat h1 h2 hpt hd
  have hl1 : ((dirb m).length : Int) = ((dirc m).length : Int) + 2 := by omega
  have hl2 : ((dirc m).length : Int) ≤ 400 := by omega
  generalize dirb m = db at *
  generalize hdc : (dirc m).length = n at *
  generalize dirc m = dc at *
  generalize m.ds.toArray = D at *
  have hnn : dc.length = n := hdc
  clear hdc
  go_enter Tryz.func131, Tryz.ntmps131
  have hz0 := heap_alloc_new w (.cells mg0.ds.toArray 46)
  go_upto_region 1 with fail
  generalize hw1 : World.alloc _ _ = w1
  have HK := lh (show w1.heap[w.heap.size]? = some (.cells mg0.ds.toArray 46) from by rw [← hw1]; exact hz0)
  have HB1 := lh (show Below w.heap.size w w1 from by rw [← hw1]; exact alloc_below w _)
  clear hw1 hz0
  go_wp2_with fail
  (with_reducible refine (HG.out _).mono ?_); rintro e wx ⟨rfl, rfl⟩
  have k1 : decide ((db.length : Int) - 2 < (n : Int)) = false := decide_eq_false (by omega)
  have k2 : (2 : Int) + (n : Int) ≤ db.length := by omega
  go_upto_region 7 with fail
  rw [HX.out]
  have hr := heap_alloc_new wx (.cells #[.string (T dc), .int .i64 0, .bool true] 245)
  have HS2 := lh (show SRow (wx.alloc (.cells #[.string (T dc), .int .i64 0, .bool true] 245)) wx.heap.size dc 0 from hr)
  have b2 := alloc_below wx (.cells #[.string (T dc), .int .i64 0, .bool true] 245)
  have HB2 := lh (bnext HB1.out b2)
  have HK2 := lh ((b2.block _ (row_ltP HK.out)).trans HK.out)
  have hg0 : w.heap.size < wx.heap.size := row_ltP HK.out
  clear hr b2 HB1 HK
  generalize World.alloc wx _ = w2 at *
  generalize wx.heap.size = g at *
  have hs2 := HS2.out
  go_wp2_with fail
  (with_reducible refine (HR.out _ _ hs2).mono ?_); rintro e w3 ⟨rfl, hs3, g3⟩
  have HS3 := lh hs3
  have HK3 := lh (at_grow HK2.out g3 (row_ltP HK2.out) (by omega))
  have HB3 := lh (HB2.out.trans ((below_of_grown g3 (row_ltP hs2)).mono (by omega)))
  clear hs2 hs3 g3 HS2 HK2 HB2 HR
  have hz3 := heap_alloc_new w3 (.cells mg0.ds.toArray 46)
  go_upto_region 8 with (refine wpList_store_row rfl 46 _ _ rfl w3.heap.size D rfl rfl 46 mg0.ds.toArray hz3 HZ.out HSY.out HAL.out ?_)
  generalize hwx : World.setRow _ _ _ = w4
  have b4 := (show Below w3.heap.size w3 w4 from by rw [← hwx]; exact below_setRow (alloc_below w3 _) (Nat.le_refl _) _)
  have HD := lh (show w4.heap[w3.heap.size]? = some (.cells D 46 (0, 0)) from by rw [← hwx]; exact heap_setRow_same (heap_alloc_new w3 _))
  have HS4 := lh (HS3.out.next b4)
  have HK4 := lh ((b4.block _ (row_ltP HK3.out)).trans HK3.out)
  have HB4 := lh (bnext HB3.out b4)
  clear hz3 hwx b4 HS3 HK3 HB3
  generalize w3.heap.size = b at *
  obtain ⟨⟨c0, c1, c2⟩, _, _⟩ := HS4.out.reads
  go_wp2_with (refine wpList_load_row rfl 46 _ rfl b rfl 46 D (0, 0) _ HD.out HU.out rfl HZ.out ?_)
  (with_reducible refine (HCK.out _).mono ?_); rintro e w5 ⟨rfl, b5⟩
  have HD5 := lh ((b5.block _ (row_ltP HD.out)).trans HD.out)
  have HK5 := lh ((b5.block _ (row_ltP HK4.out)).trans HK4.out)
  have HB5 := lh (bnext HB4.out b5)
  clear b5 c0 c1 c2 HD HK4 HB4 HS4
  generalize mg0.ds.toArray = D0 at *
  go_wp2_with (first | refine wpList_load_row rfl 46 _ rfl b rfl 46 D (0, 0) _ HD5.out HU.out rfl HZ.out ?_ | refine wpList_store_row rfl 46 _ _ rfl w.heap.size D rfl rfl 46 D0 HK5.out HZ.out HSY.out HAL.out ?_)
  refine bodyPost_ret (v := .tuple #[.agg D, .int .i64 (2 + (n : Int)), .int .i64 0]) (results_cell_row3 Tryz.results131 _ _ w.heap.size 46 D (0, 0) _ _ _ rfl rfl rfl (heap_setRow_same HK5.out) HU.out rfl HZ.out) rfl ⟨by rw [hl1, show (n : Int) + 2 = 2 + n from by omega], below_setRow HB5.out (Nat.le_refl _) _⟩
theorem rstat_any (g : Nat) (s : List UInt8) (a : Nat) (m : Mg) (w : World) (h0 : RdRow w g s a) (hat : At s a (Oct.le 2 (dirb m).length ++ dirb m)) (hd : DirOk m) (hl : s.length ≤ 1000000) :
    Calls Tryz.prog 78 #[.pointer (some ⟨g, 0, none⟩)] w fun e w' => e = .returned (.agg m.ds.toArray) ∧ RdRow w' g s (a + (Oct.le 2 (dirb m).length ++ dirb m).length) ∧ w.grownBy w' (some g) := by
  have hdl := dirb_len0 m hd
  have hel : (dirb m).length = (dirc m).length + 2 := txt_len _
  have HDA := lh (fun (W : World) (h : RdRow W g s a) => show Calls Tryz.prog 77 #[.pointer (some ⟨g, 0, none⟩), .int .i64 2] W fun e w' => e = .returned (.string (T (dirb m))) ∧ RdRow w' g s (a + (Oct.le 2 (dirb m).length ++ dirb m).length) ∧ W.grownBy w' (some g) from rdata_any g s (dirb m) a 2 W h hat (by omega) (by omega) (by omega) hl)
  have HG := lh (fun W => sget_any m hd W)
  have hsz : (T (dirb m)).size = (dirb m).length := T_size _
  have HU := lh (Tryz.underlying46)
  have HZ := lh (ds_size m)
  have HAL := lh (ds_all m)
  have HSY : RowKit.Hid (mg0.ds.toArray.size = m.ds.toArray.size) := lh rfl
  clear hat hd hl hdl hel
  generalize (Oct.le 2 (dirb m).length ++ dirb m).length = q at *
  generalize dirb m = db at *
  generalize m.ds.toArray = D at *
  have HS := lh h0
  clear h0
  go_enter Tryz.func78, Tryz.ntmps78
  have hz0 := heap_alloc_new w (.cells mg0.ds.toArray 46)
  go_upto_region 1 with fail
  generalize hw1 : World.alloc _ _ = w1
  have HK := lh (show w1.heap[w.heap.size]? = some (.cells mg0.ds.toArray 46) from by rw [← hw1]; exact hz0)
  have b1 := (show Below w.heap.size w w1 from by rw [← hw1]; exact alloc_below w _)
  have HS1 := lh (HS.out.next b1)
  have HG1 := lh (below_grownBy b1 (some g))
  have hgw : g < w.heap.size := row_ltP HS.out
  clear hw1 hz0 b1 HS
  go_wp2_with fail
  have hs1 := HS1.out
  (with_reducible refine (HDA.out _ hs1).mono ?_); rintro e w2 ⟨rfl, hs2, g2⟩
  have HS2 := lh hs2
  have HK2 := lh (at_grow HK.out g2 (row_ltP HK.out) (by omega))
  have HG2 := lh (HG1.out.trans g2)
  clear hs1 hs2 g2 HS1 HK HG1
  obtain ⟨⟨c0, c1, c2⟩, f1, f2⟩ := HS2.out.reads
  go_wp2_with fail
  (with_reducible refine (HG.out _).mono ?_); rintro e w3 ⟨rfl, b3⟩
  have HS3 := lh (HS2.out.next b3)
  have HK3 := lh ((b3.block _ (row_ltP HK2.out)).trans HK2.out)
  have HG3 := lh (HG2.out.trans (below_grownBy b3 (some g)))
  clear b3 HS2 HK2 HG2 c0 c1 c2 f1 f2
  have hz3 := heap_alloc_new w3 (.cells mg0.ds.toArray 46)
  go_upto_region 5 with (refine wpList_store_row rfl 46 _ _ rfl w3.heap.size D rfl rfl 46 mg0.ds.toArray hz3 HZ.out HSY.out HAL.out ?_)
  generalize hwx : World.setRow _ _ _ = w4
  have b4 := (show Below w3.heap.size w3 w4 from by rw [← hwx]; exact below_setRow (alloc_below w3 _) (Nat.le_refl _) _)
  have HD := lh (show w4.heap[w3.heap.size]? = some (.cells D 46 (0, 0)) from by rw [← hwx]; exact heap_setRow_same (heap_alloc_new w3 _))
  have hgb : g < w3.heap.size := row_ltP HS3.out
  have hkb : w.heap.size < w3.heap.size := row_ltP HK3.out
  have HS4 := lh (HS3.out.next b4)
  have HK4 := lh ((b4.block _ (row_ltP HK3.out)).trans HK3.out)
  have HG4 := lh (HG3.out.trans (below_grownBy b4 (some g)))
  clear hz3 hwx b4 HS3 HK3 HG3
  generalize w3.heap.size = b at *
  obtain ⟨⟨c0, c1, c2⟩, f1, f2⟩ := HS4.out.reads
  have hg5 := grown_setG (below_grownBy (Below.refl _ w4) (some g)) 2 (.bool true)
  have HS5 := lh (show RdRow (w4.setCell ⟨g, 2, none⟩ (.bool true)) g s (a + q) from heap_setCell_same w4 g 2 _ _ (.bool true) HS4.out)
  have HK5 := lh (at_grow HK4.out hg5 (row_ltP HK4.out) (by omega))
  have HD5 := lh (at_grow HD.out hg5 (row_ltP HD.out) (by omega))
  have HG5 := lh (HG4.out.trans hg5)
  clear hg5 HS4 HK4 HD HG4
  go_upto_region 6 with fail
  generalize World.setCell w4 ⟨g, 2, none⟩ (.bool true) = w5 at *
  generalize mg0.ds.toArray = D0 at *
  go_wp2_with (first | refine wpList_load_row rfl 46 _ rfl b rfl 46 D (0, 0) _ HD5.out HU.out rfl HZ.out ?_ | refine wpList_store_row rfl 46 _ _ rfl w.heap.size D rfl rfl 46 D0 HK5.out HZ.out HSY.out HAL.out ?_)
  refine bodyPost_ret (v := .agg D) (results_cell_row Tryz.results78 _ _ w.heap.size 46 D (0, 0) _ rfl (heap_setRow_same HK5.out) HU.out rfl HZ.out) rfl ⟨rfl, ?_, grown_fresh HG5.out (grown_setRow _) (Nat.le_refl _)⟩
  exact ((grown_setRow D).block _ (row_ltP HS5.out) (fun e => by have := Option.some.inj e; omega)).trans HS5.out
theorem At.flat {A : Type} {s : List UInt8} {a : Nat} {l : List A} {f : A → List UInt8} (h : At s a (l.flatMap f)) (j : Nat) (hj : j < l.length) : At s (a + ((l.take j).flatMap f).length) (f l[j]) := by
  have e : l.flatMap f = (l.take j).flatMap f ++ (f l[j] ++ (l.drop (j + 1)).flatMap f) := by
    have h1 : l = l.take j ++ (l[j] :: l.drop (j + 1)) := by rw [← List.drop_eq_getElem_cons hj, List.take_append_drop]
    conv => lhs; rw [h1]
    rw [List.flatMap_append, List.flatMap_cons]
  rw [e] at h
  exact h.right.left
/-- Texts as values. -/
def txv (l : List (List UInt8)) : List Value := l.map fun t => .string (T t)
theorem txv_take (l : List (List UInt8)) (j : Nat) (h : j < l.length) : txv (l.take (j + 1)) = txv (l.take j) ++ [.string (T l[j])] := by
  unfold txv
  rw [List.take_succ_eq_append_getElem h, List.map_append]
  rfl
theorem txs_own {W : World} {B : Nat} {v : Value} {l : List (List UInt8)} (h : W.ownsRow B 9 1 v l.length (txv l)) : Txs W v l ∧ ∀ ad n c, v = .slice (some ad) n c → B ≤ ad.block := by
  rcases h.2 with ⟨rfl, h0⟩ | ⟨g, cap, cur, rfl, hB, hg, hnc, _, hsz, htk⟩
  · have : l = [] := List.eq_nil_of_length_eq_zero h0
    subst this
    exact ⟨Txs.nil W, fun ad n c e => by cases e⟩
  · refine ⟨⟨_, cap, rfl, hnc, (fun e => by cases e), fun j hj => ⟨g, 0, rfl, row_ltP hg, ?_⟩⟩, fun ad n c e => by cases e; exact hB⟩
    rw [Nat.zero_add, Lib.cell_of_heap hg]
    have h1 : cur.toList[j]? = (txv l)[j]? := by
      rw [← htk, List.getElem?_take_of_lt (by omega)]
    have h2 : (txv l)[j]? = some (.string (T l[j])) := by simp [txv, hj]
    rw [h2] at h1
    simpa using h1
theorem grown_own {w W W2 : World} {g : Nat} {e : TypeId} {z n : Nat} {v : Value} {xs : List Value} (h : w.grownBy W (some g)) (ho : W.ownsRow w.heap.size e z v n xs) (h2 : W.grownBy W2 v.ownBlock) : w.grownBy W2 (some g) :=
  ⟨h2.os.trans h.os, h2.tape.trans h.tape, h2.output.trans h.output, Nat.le_trans h.size h2.size, fun i hi hn => (h2.block i (Nat.lt_of_lt_of_le hi h.size) (fun e => by have := (ho.lt i e.symm).1; omega)).trans (h.block i hi hn)⟩
theorem rdnames_any (g : Nat) (s : List UInt8) (a : Nat) (ns : List (List UInt8)) (w : World) (h0 : RdRow w g s a) (hat : At s a (Oct.le 2 ns.length ++ ns.flatMap txt)) (hn : ns.length ≤ 16 ∧ ∀ s ∈ ns, s.length ≤ 1000) (hl : s.length ≤ 1000000) :
    Calls Tryz.prog 75 #[.pointer (some ⟨g, 0, none⟩)] w fun e w' => ∃ v, e = .returned v ∧ (Txs w' v ns ∧ ∀ ad n c, v = .slice (some ad) n c → w.heap.size ≤ ad.block) ∧ RdRow w' g s (a + (Oct.le 2 ns.length ++ ns.flatMap txt).length) ∧ w.grownBy w' (some g) := by
  obtain ⟨i0, hi, hz0, hz1, hz2⟩ := info_parts (P := Tryz.prog) (e := 9) (z := .string ByteArray.empty) (size := 1) (bytes := 16) (by kernel_rfl)
  have h16 := hn.1
  have HN := lh (show Calls Tryz.prog 31 #[.pointer (some ⟨g, 0, none⟩), .int .i64 2] w fun e w' => e = .returned (.int .i64 (ns.length : Int)) ∧ RdRow w' g s (a + 2) ∧ w.grownBy w' (some g) from rnumv_any g s a 2 ns.length w h0 hat.left (by omega) (by omega) (by omega) (by omega) hl)
  have hat2 := hat.right
  rw [Oct.le_length] at hat2
  have HTX := lh (fun (j : Nat) (hj : j < ns.length) (W : World) (h : RdRow W g s (a + 2 + ((ns.take j).flatMap txt).length)) => rtext_any g s ns[j] _ W h (hat2.flat j hj) (by have := hn.2 _ (List.getElem_mem hj); omega) hl)
  rw [List.length_append, Oct.le_length, ← Nat.add_assoc]
  have hgl : g < w.heap.size := row_ltP h0
  clear hat hat2 hn hl h0
  generalize a + 2 = a2 at *
  go_enter Tryz.func75, Tryz.ntmps75
  go_wp2_with fail
  (with_reducible refine HN.out.mono ?_); rintro e w1 ⟨rfl, hs1, g1⟩
  have HS1 := lh hs1
  have HG1 := lh g1
  clear hs1 g1 HN
  go_wp2_with fail
  go_loopg [3, 4] ns.length (fun k o n W => ∃ j : Nat, j ≤ ns.length ∧ n = .int .i64 ((ns.length : Int) - j) ∧ (W.ownsRow w.heap.size 9 1 o j (txv (ns.take j)) ∧ RdRow W g s (a2 + ((ns.take j).flatMap txt).length) ∧ w.grownBy W (some g)) ∧ k = ns.length - j)
  case atStart => exact ⟨0, by omega, by simp, ⟨⟨by simp [txv], Or.inl ⟨rfl, rfl⟩⟩, by simpa using HS1.out, HG1.out⟩, rfl⟩
  case round =>
    obtain ⟨j, hj, rfl, ⟨hown, hst, hgr⟩, hk⟩ := hrel
    have HO := lh hown
    have HS2 := lh hst
    have HG2 := lh hgr
    have HK := lh hk
    clear hown hst hgr hk HS1 HG1
    obtain ⟨⟨c0, c1, c2⟩, _, _⟩ := HS2.out.reads
    by_cases hlt : j < ns.length
    · have hki : (0 : Int) < (ns.length : Int) - j := by omega
      have HTJ := lh (fun W h => HTX.out j hlt W h)
      have e1 := take_flat ns txt j hlt
      have HE := lh (show a2 + ((ns.take j).flatMap txt).length + (txt ns[j]).length = a2 + ((ns.take (j + 1)).flatMap txt).length from by rw [e1, List.length_append]; omega)
      have HV := lh (txv_take ns j hlt)
      clear e1 HTX
      generalize hq : a2 + ((ns.take j).flatMap txt).length = q at *
      clear hq
      generalize txv (ns.take j) = tv at *
      generalize ns[j] = t at *
      go_wp2_with fail
      have hs2 := HS2.out
      (with_reducible refine (HTJ.out _ hs2).mono ?_); rintro e w3 ⟨rfl, hs3, g3⟩
      have HO3 := lh (HO.out.kept g3 (Or.inr (own_neP HO.out hs2 (by decide))))
      have HS3 := lh hs3
      have HG3 := lh (HG2.out.trans g3)
      clear hs2 hs3 g3 HO HS2 HG2 c0 c1 c2
      obtain ⟨ao, cp, rfl, _⟩ := own_form HO3.out
      have hwz := HG3.out.size
      have ba := alloc_below w3 (.cells #[.string (T t)] 9)
      have hbz := ba.size
      have HS4 := lh (HS3.out.next ba)
      have HG4 := lh (HG3.out.trans (below_grownBy ba (some g)))
      have HN4 := lh (heap_alloc_new w3 (.cells #[.string (T t)] 9))
      clear ba
      go_wp2_with (at_builtin; refine wpList_append_any _ rfl _ _ 32 rfl w.heap.size 9 i0 (.string ByteArray.empty) 1 16 Tryz.underlying32 hi hz0 hz1 hz2 rfl (by decide) (.slice ao j cp) j tv rfl ?c0 (some ⟨w3.heap.size, 0, none⟩) 1 1 [.string (T t)] rfl ?c1 rfl ?c2 ?c3 ?c4 ?c5 ?c6 ?_)
      case c0 => exact HO3.out.alloc _
      case c1 => intro h; cases h
      case c2 =>
        intro ad had
        cases had
        exact World.news_of_block (t := 9) (fr := (0, 0)) (heap_alloc_new w3 _)
      case c3 =>
        intro u hu
        simp only [List.mem_cons, List.not_mem_nil, or_false] at hu
        rcases hu with rfl <;> rfl
      case c4 => unfold maxLen; omega
      case c5 => omega
      case c6 => omega
      intro v4 w4 hown4 hgrow4 _
      have ho3 := HO3.out.alloc (.cells #[.string (T t)] 9)
      rw [← HV.out] at hown4
      have HO5 := lh hown4
      have HG5 := lh (grown_own HG4.out ho3 hgrow4)
      have HS5 := lh (show RdRow w4 g s (a2 + ((ns.take (j + 1)).flatMap txt).length) from by
        rw [← HE.out]
        exact (hgrow4.block _ (row_ltP HS4.out) (fun e => by have := (ho3.lt _ e.symm).1; omega)).trans HS4.out)
      clear hown4 hgrow4 ho3 HO3 HS3 HG3 HS4 HG4 HN4 hwz hbz
      have e5 : (ns.length : Int) - j - 1 = (ns.length : Int) - ((j + 1 : Nat) : Int) := by omega
      go_wp2_with fail
      have hk := HK.out
      go_roundg (ns.length - (j + 1))
      case measure => omega
      case rel => exact ⟨j + 1, by omega, congrArg (Value.int .i64) (by omega), ⟨HO5.out, HS5.out, HG5.out⟩, rfl⟩
    · obtain rfl : j = ns.length := by omega
      have ho := HO.out
      rw [List.take_length] at ho
      have hs := HS2.out
      rw [List.take_length] at hs
      have HT := lh (txs_own ho)
      have HS3 := lh hs
      have e0 : (ns.length : Int) - ns.length = 0 := by omega
      rw [e0]
      clear ho hs HO HS2 HTX hlt hj
      go_wp2_with fail
      go_ret
      exact ⟨_, rfl, HT.out, HS3.out, HG2.out⟩
end Go.Proofs.YtfibaopngpfmjaaGreatDoor
