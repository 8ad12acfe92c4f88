/- What the scanner's append and add do. Conditions: at most 1000 tokens; no token that joins. -/
import Derived.Test.YtfibaopngpfmjaaGreatDoorPxSymbol
import Derived.Test.YtfibaopngpfmjaaGreatDoorAppAny
import Derived.Deep.AppendLies
set_option linter.unusedVariables false
set_option linter.unusedSimpArgs false
namespace Go.Proofs.YtfibaopngpfmjaaGreatDoor
open Go.RowKit Go.Proofs
theorem ScRow.alloc {w : World} {g : Nat} {s : List UInt8} {at_ en : Nat} {tv : Value} (h : ScRow w g s at_ en tv) (o : Obj) : ScRow (w.alloc o) g s at_ en tv :=
  (Lib.alloc_old w o g (row_ltP h)).trans h
theorem ScRow.setToks {w : World} {g : Nat} {s : List UInt8} {at_ en : Nat} {tv : Value} (h : ScRow w g s at_ en tv) (v : Value) : ScRow (w.setCell ⟨g, 2, none⟩ v) g s at_ en v :=
  heap_setCell_same w g 2 _ _ v h
theorem own_not {w : World} {B : Nat} {e : TypeId} {z : Nat} {v : Value} {n : Nat} {xs : List Value} (h : w.ownsRow B e z v n xs) {g : Nat} (hg : g < B) : v.ownBlock ≠ some g := by
  intro e
  have := (h.lt g e).1
  omega
theorem tokv_one (t : Tok) : ∀ u ∈ tokv t, u.oneCell' = true := by
  intro u hu
  simp only [tokv, List.mem_cons, List.not_mem_nil, or_false] at hu
  rcases hu with rfl | rfl | rfl | rfl <;> rfl
set_option maxRecDepth 100000 in
set_option maxHeartbeats 4000000 in
theorem append_tok (g B : Nat) (s : List UInt8) (at_ en : Nat) (l : List Tok) (t : Tok) (w : World) (h : ScS w g B s at_ en l) (hn : l.length ≤ 1000) (hB : B ≤ w.heap.size) :
    Calls Tryz.prog 84 #[.pointer (some ⟨g, 0, none⟩), .agg #[.int .i64 t.kind, .int .i64 (t.pos : Int), .string (T t.text), .string (T t.quoted)]] w fun e w' => e = .returned (.bool true) ∧ ScS w' g B s at_ en (l ++ [t]) ∧ Below g w w' := by
  obtain ⟨i0, hi, hz0, hz1, hz2⟩ := info_parts (P := Tryz.prog) (e := 132) (z := .agg #[.int .i64 0, .int .i64 0, .string ByteArray.empty, .string ByteArray.empty]) (size := 4) (bytes := 48) (by kernel_rfl)
  obtain ⟨tv, hr, hown, hgB⟩ := h
  obtain ⟨ao, cap, rfl, _⟩ := own_form hown
  have hgl := row_ltP hr
  have HS := Lib.hid (hr.alloc (.cells #[.int .i64 t.kind, .int .i64 (t.pos : Int), .string (T t.text), .string (T t.quoted)] 132))
  have HO := Lib.hid (hown.alloc (.cells #[.int .i64 t.kind, .int .i64 (t.pos : Int), .string (T t.text), .string (T t.quoted)] 132))
  have HW := Lib.hid (show Below g w (w.alloc (.cells #[.int .i64 t.kind, .int .i64 (t.pos : Int), .string (T t.text), .string (T t.quoted)] 132)) from (Below.refl g w).alloc (by omega) _)
  have HN := Lib.hid (heap_alloc_new w (.cells #[.int .i64 t.kind, .int .i64 (t.pos : Int), .string (T t.text), .string (T t.quoted)] 132))
  have hsz : B ≤ (w.alloc (.cells #[.int .i64 t.kind, .int .i64 (t.pos : Int), .string (T t.text), .string (T t.quoted)] 132)).heap.size := by simp; omega
  have hb1 : ¬ (1024 : Int) ≤ (l.length : Int) := by omega
  obtain ⟨⟨r0, r1, r2, r3, r4, r5, r6⟩, _⟩ := HS.out.reads
  have HSZ := Lib.hid hsz
  clear hr hown hsz
  go_enter Tryz.func84, Tryz.ntmps84
  go_upto_region 3 with fail
  generalize hw1 : w.alloc _ = w1 at *
  have e0 : w1.cell? ⟨w.heap.size, 0, none⟩ = some (.int .i64 t.kind) := by rw [Lib.cell_of_heap HN.out]; rfl
  have e1 : w1.cell? ⟨w.heap.size, 1, none⟩ = some (.int .i64 (t.pos : Int)) := by rw [Lib.cell_of_heap HN.out]; rfl
  have e2 : w1.cell? ⟨w.heap.size, 2, none⟩ = some (.string (T t.text)) := by rw [Lib.cell_of_heap HN.out]; rfl
  have e3 : w1.cell? ⟨w.heap.size, 3, none⟩ = some (.string (T t.quoted)) := by rw [Lib.cell_of_heap HN.out]; rfl
  have hgw1 : g < w1.heap.size := row_ltP HS.out
  have HWS := Lib.hid (show B + 1 ≤ w1.heap.size from by rw [← hw1]; simp; omega)
  have ra : (w1.alloc (.cells #[.int .i64 t.kind, .int .i64 (t.pos : Int), .string (T t.text), .string (T t.quoted)] 132)).cell? ⟨g, 2, none⟩ = some (.slice ao l.length cap) := (HS.out.alloc _).reads.1.2.2.1
  clear hw1
  go_region_law (refine step_append_any (by rfl) _ _ _ (by rfl) B 132 i0 (.agg #[.int .i64 0, .int .i64 0, .string ByteArray.empty, .string ByteArray.empty]) 4 48 Tryz.underlying58 hi hz0 hz1 hz2 rfl (by decide) (.slice ao l.length cap) l.length (toks l) (by rfl) ((HO.out.alloc _).drew) (some ⟨w1.heap.size, 0, none⟩) 1 1 (tokv t) (by rfl) (by intro h; cases h) (by rfl) (by intro ad had; cases had; exact World.news_of_block (t := 132) (fr := (0, 0)) (heap_alloc_new w1 _)) (tokv_one t) (by unfold maxLen; omega) (by omega) (by have := HWS.out; simp; omega) ?_; intro v' w2 hown2 hgrow2 hloc2; obtain ⟨ao2, cap2, rfl, _⟩ := own_form hown2; have hrow2 := (hgrow2.block g (by have := HWS.out; simp; omega) (fun e => own_not HO.out hgB e.symm)).trans (HS.out.alloc _); have c2 := (ScRow.reads hrow2).1.2.2.1; have f2 := (ScRow.reads hrow2).2.2.1)
  all_goals go_wp2_with fail
  all_goals go_ret
  all_goals
    refine ⟨rfl, ⟨_, ScRow.setToks hrow2 _, ?_, hgB⟩, ?_⟩
    · have := hown2.kept (grown_setG (below_grownBy (Below.refl w2.heap.size w2) (some g)) 2 (.slice ao2 (l.length + 1) cap2)) (Or.inr (own_not hown2 hgB))
      rw [toks_append]
      simpa [toks] using this
    · exact ((((HW.out.alloc (by omega) _).drew).grown hgrow2 (by have := HWS.out; simp; omega) (fun k hk => by have := (HO.out.lt k hk).1; omega)).setCell (p := ⟨g, 2, none⟩) (Nat.le_refl _) _)
end Go.Proofs.YtfibaopngpfmjaaGreatDoor
