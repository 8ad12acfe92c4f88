/- What the parser's word returns at a word. Conditions: at most 1000 tokens, all words. -/
import Derived.Test.YtfibaopngpfmjaaGreatDoorPxPiece
set_option linter.unusedVariables false
set_option linter.unusedSimpArgs false
namespace Go.Proofs.YtfibaopngpfmjaaGreatDoor
open Go.RowKit Go.Proofs
abbrev wobj (t : Tok) : Obj := .cells #[.int .i64 1, .string (T t.text), .string (T t.quoted), .slice none 0 0, .slice none 0 0] 36
set_option maxRecDepth 100000 in
set_option maxHeartbeats 4000000 in
theorem pword_any (g n : Nat) (l : List Tok) (w : World) (h : PrS w g l n) (hl : l.length ≤ 900) (hn : n < l.length) (hw : Wds l) :
    Calls Tryz.prog 268 #[.pointer (some ⟨g, 0, none⟩)] w fun e w' => e = .returned (twv (tkAt l n)) ∧ PrS w' g l (n + 1) ∧ w.grownBy w' (some g) := by
  have hgl := h.lt
  have HB0 := Lib.hid (show Below w.heap.size w (w.alloc wzero) from (Below.refl _ w).alloc (Nat.le_refl _) _)
  have HZ0 := Lib.hid (heap_alloc_new w wzero)
  have HS0 := Lib.hid (h.next HB0.out)
  have HT := Lib.hid (fun (W : World) (h : PrS W g l n) => piece_any g n l W h (by omega) hn hw)
  have HC := Lib.hid (fun (W : World) (h : PrS W g l (n + 1)) => accept_not g (n + 1) l (T [94]) W h (by omega) (by omega) hw)
  clear h hl hn hw
  unfold twv at *
  generalize tkAt l n = t at *
  have HA := Lib.hid (fun (W : World) => show Below W.heap.size W (W.alloc (wobj t)) from (Below.refl _ W).alloc (Nat.le_refl _) _)
  have HN := Lib.hid (fun (W : World) => heap_alloc_new W (wobj t))
  unfold wobj at HA HN
  go_enter Tryz.func268, Tryz.ntmps268
  go_wp2_with fail
  generalize hw0 : World.alloc _ _ = w0 at *
  clear hw0
  (with_reducible refine (HT.out _ HS0.out).mono ?_); rintro e w1 ⟨rfl, hs1, g1⟩
  have HS1 := Lib.hid hs1
  have HZ1 := Lib.hid ((g1.block _ (row_ltP HZ0.out) (fun e => by cases e; omega)).trans HZ0.out)
  have HG1 := Lib.hid ((below_grownBy HB0.out (some g)).trans g1)
  clear hs1 g1 HS0 HZ0 HB0 HT
  go_wp2_with fail
  have HS2 := Lib.hid (HS1.out.next (HA.out w1))
  have HZ2 := Lib.hid (((HA.out w1).block _ (row_ltP HZ1.out)).trans HZ1.out)
  have HG2 := Lib.hid (HG1.out.trans (below_grownBy (HA.out w1) (some g)))
  have HK2 := Lib.hid (HN.out w1)
  have htb : w.heap.size < w1.heap.size := row_ltP HZ1.out
  generalize hw2 : w1.alloc _ = w2 at *
  generalize w1.heap.size = tb at *
  clear hw2 HS1 HZ1 HG1 HA HN
  refine wp_loop_rounds 1 ?_
  rw [rounds_succ]
  go_wp2_with fail
  (with_reducible refine (HC.out _ HS2.out).mono ?_); rintro e w3 ⟨rfl, b3⟩
  have HS3 := Lib.hid (HS2.out.next b3)
  have HZ3 := Lib.hid ((b3.block _ (row_ltP HZ2.out)).trans HZ2.out)
  have HK3 := Lib.hid ((b3.block _ (row_ltP HK2.out)).trans HK2.out)
  have HG3 := Lib.hid (HG2.out.trans (below_grownBy b3 (some g)))
  clear b3 HS2 HZ2 HG2 HK2 HC
  obtain ⟨k0, k1, k2, k3, k4⟩ := five_cells HK3.out
  obtain ⟨z0, z1, z2, z3, z4⟩ := five_cells HZ3.out
  obtain ⟨y0, y1, y2, y3, y4⟩ := five_frozen HZ3.out
  go_wp2_with fail
  have hq := five_stored (v0 := .int .i64 1) (v1 := .string (T t.text)) (v2 := .string (T t.quoted)) (v3 := .slice none 0 0) (v4 := .slice none 0 0) HZ3.out
  obtain ⟨q0, q1, q2, q3, q4⟩ := five_cells hq
  exact bodyPost_ret (v := .agg #[.int .i64 1, .string (T t.text), .string (T t.quoted), .slice none 0 0, .slice none 0 0]) (by simp [results, Tryz.results268, go_sem, q0, q1, q2, q3, q4]) rfl ⟨rfl, HS3.out.other HZ3.out (by decide) (by omega) (five_grown _ _ _ _ _ _), grown_new HG3.out (five_grown _ _ _ _ _ _) (Nat.le_refl _)⟩
end Go.Proofs.YtfibaopngpfmjaaGreatDoor
