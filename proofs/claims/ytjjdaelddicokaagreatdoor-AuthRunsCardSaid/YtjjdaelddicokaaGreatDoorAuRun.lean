/- What auth.Run returns: Au.run of 16 rounds. Conditions: keys and texts of at most 1000; few steps. -/
import Derived.Test.YtjjdaelddicokaaGreatDoorAuKeep
import Derived.Deep.CutBlock
set_option linter.unusedVariables false
set_option linter.unusedSimpArgs false
namespace Go.Proofs.YtjjdaelddicokaaGreatDoor
open Go.RowKit
open Au (Att Cnv)
/-- What Run hands back. -/
def RunSays (w : World) (R : Cnv × Cnv × Int) (la lb : List Att) (e : Ending) (w' : World) : Prop :=
  ∃ a n k b n2 k2, e = .returned (.tuple #[.agg #[.int .i64 R.1.id, .string (T R.1.proto), .int .i64 R.1.role, .int .i64 R.1.phase, .int .i64 R.1.step, (.slice a n k), .string (T R.1.own), .string (T R.1.peer), .string (T R.1.user), .int .i64 R.1.err], .agg #[.int .i64 R.2.1.id, .string (T R.2.1.proto), .int .i64 R.2.1.role, .int .i64 R.2.1.phase, .int .i64 R.2.1.step, (.slice b n2 k2), .string (T R.2.1.own), .string (T R.2.1.peer), .string (T R.2.1.user), .int .i64 R.2.1.err], .int .i64 R.2.2]) ∧ Atts w' (.slice a n k) la ∧ Atts w' (.slice b n2 k2) lb ∧ (∀ q, a = some q → w.heap.size ≤ q.block) ∧ (∀ q, b = some q → w.heap.size ≤ q.block) ∧ Below w.heap.size w w'
/-- The boxes of Run. -/
structure RnS (w W : World) (a b : Cnv) (ka kb : Value) : Prop where
  ra : W.heap[w.heap.size]? = some (.cells #[.int .i64 a.id, .string (T a.proto), .int .i64 a.role, .int .i64 a.phase, .int .i64 a.step, ka, .string (T a.own), .string (T a.peer), .string (T a.user), .int .i64 a.err] 25 (0, 0))
  rb : W.heap[w.heap.size + 1]? = some (.cells #[.int .i64 b.id, .string (T b.proto), .int .i64 b.role, .int .i64 b.phase, .int .i64 b.step, kb, .string (T b.own), .string (T b.peer), .string (T b.user), .int .i64 b.err] 25 (0, 0))
  r2 : W.heap[w.heap.size + 1 + 1]? = some (.cells #[.int .i64 0, .string (T []), .int .i64 0, .int .i64 0, .int .i64 0, .slice none 0 0, .string (T []), .string (T []), .string (T []), .int .i64 0] 25 (0, 0))
  r3 : W.heap[w.heap.size + 1 + 1 + 1]? = some (.cells #[.int .i64 0, .string (T []), .int .i64 0, .int .i64 0, .int .i64 0, .slice none 0 0, .string (T []), .string (T []), .string (T []), .int .i64 0] 25 (0, 0))
  ta : Atts W ka a.key
  tb : Atts W kb b.key
  ki : KIn W
  kl : 0 < w.heap.size
  bl : Below w.heap.size w W
/-- A slice that lies in no box of Run. -/
def Far (w : World) (ao : Option Addr) (l : List Att) : Prop := ∀ q, ao = some q → l ≠ [] → q.block < w.heap.size ∨ w.heap.size + 4 ≤ q.block
theorem far_old {w : World} {ao : Option Addr} {m cp : Nat} {l : List Att} (h : Atts w (.slice ao m cp) l) : Far w ao l := by
  intro q hq hn
  obtain ⟨_, hc⟩ := h.at
  obtain ⟨b, off, ha, hlt, _⟩ := hc 0 (List.length_pos_iff.2 hn)
  rw [hq] at ha; cases ha; exact .inl hlt
theorem RnS.next {w W W' : World} {a b : Cnv} {ka kb : Value} (h : RnS w W a b ka kb) (hb : Below W.heap.size W W') : RnS w W' a b ka kb :=
  ⟨(hb.block _ (row_ltA h.ra)).trans h.ra, (hb.block _ (row_ltA h.rb)).trans h.rb, (hb.block _ (row_ltA h.r2)).trans h.r2, (hb.block _ (row_ltA h.r3)).trans h.r3, h.ta.below hb, h.tb.below hb, h.ki.below hb, h.kl, bnext h.bl hb⟩
theorem RnS.setA {w W W' : World} {a b a' : Cnv} {ka : Value} {ao bo : Option Addr} {m cp n dp : Nat} (h : RnS w W a b ka (.slice bo n dp)) (hg : W.grownBy W' (some (w.heap.size))) (hr : W'.heap[w.heap.size]? = some (.cells #[.int .i64 a'.id, .string (T a'.proto), .int .i64 a'.role, .int .i64 a'.phase, .int .i64 a'.step, (.slice ao m cp), .string (T a'.own), .string (T a'.peer), .string (T a'.user), .int .i64 a'.err] 25 (0, 0))) (ht : Atts W (.slice ao m cp) a'.key) (hf : Far w ao a'.key) (hfb : Far w bo b.key) : RnS w W' a' b (.slice ao m cp) (.slice bo n dp) :=
  ⟨hr, grown_keep hg h.rb (by omega), grown_keep hg h.r2 (by omega), grown_keep hg h.r3 (by omega), atts_keep ht hg (fun q hq hn => by have := hf q hq hn; omega), atts_keep h.tb hg (fun q hq hn => by have := hfb q hq hn; omega), kin_grown h.ki hg (by have := h.kl; omega), h.kl, grown_below h.bl hg (by omega)⟩
theorem RnS.setB {w W W' : World} {a b b' : Cnv} {kb : Value} {ao bo : Option Addr} {m cp n dp : Nat} (h : RnS w W a b (.slice ao m cp) kb) (hg : W.grownBy W' (some (w.heap.size + 1))) (hr : W'.heap[w.heap.size + 1]? = some (.cells #[.int .i64 b'.id, .string (T b'.proto), .int .i64 b'.role, .int .i64 b'.phase, .int .i64 b'.step, (.slice bo n dp), .string (T b'.own), .string (T b'.peer), .string (T b'.user), .int .i64 b'.err] 25 (0, 0))) (ht : Atts W (.slice bo n dp) b'.key) (hf : Far w bo b'.key) (hfa : Far w ao a.key) : RnS w W' a b' (.slice ao m cp) (.slice bo n dp) :=
  ⟨grown_keep hg h.ra (by omega), hr, grown_keep hg h.r2 (by omega), grown_keep hg h.r3 (by omega), atts_keep h.ta hg (fun q hq hn => by have := hfa q hq hn; omega), atts_keep ht hg (fun q hq hn => by have := hf q hq hn; omega), kin_grown h.ki hg (by have := h.kl; omega), h.kl, grown_below h.bl hg (by omega)⟩
theorem alloc_keepR {W : World} {g : Nat} {x o : Obj} (h : W.heap[g]? = some x) : (W.alloc o).heap[g]? = some x := (Lib.alloc_old _ _ _ (row_ltA h)).trans h
theorem RnS.start (w : World) (a b : Cnv) (ka kb : Value) (ha : Atts w ka a.key) (hb : Atts w kb b.key) (hK : KIn w) : RnS w ((((w.alloc (.cells #[.int .i64 a.id, .string (T a.proto), .int .i64 a.role, .int .i64 a.phase, .int .i64 a.step, ka, .string (T a.own), .string (T a.peer), .string (T a.user), .int .i64 a.err] 25)).alloc (.cells #[.int .i64 b.id, .string (T b.proto), .int .i64 b.role, .int .i64 b.phase, .int .i64 b.step, kb, .string (T b.own), .string (T b.peer), .string (T b.user), .int .i64 b.err] 25)).alloc (.cells #[.int .i64 0, .string (T []), .int .i64 0, .int .i64 0, .int .i64 0, .slice none 0 0, .string (T []), .string (T []), .string (T []), .int .i64 0] 25)).alloc (.cells #[.int .i64 0, .string (T []), .int .i64 0, .int .i64 0, .int .i64 0, .slice none 0 0, .string (T []), .string (T []), .string (T []), .int .i64 0] 25)) a b ka kb := by
  obtain ⟨h1, h2, h3⟩ := three_rows w (.cells #[.int .i64 a.id, .string (T a.proto), .int .i64 a.role, .int .i64 a.phase, .int .i64 a.step, ka, .string (T a.own), .string (T a.peer), .string (T a.user), .int .i64 a.err] 25) (.cells #[.int .i64 b.id, .string (T b.proto), .int .i64 b.role, .int .i64 b.phase, .int .i64 b.step, kb, .string (T b.own), .string (T b.peer), .string (T b.user), .int .i64 b.err] 25) (.cells #[.int .i64 0, .string (T []), .int .i64 0, .int .i64 0, .int .i64 0, .slice none 0 0, .string (T []), .string (T []), .string (T []), .int .i64 0] 25)
  have hB := (below3 w (.cells #[.int .i64 a.id, .string (T a.proto), .int .i64 a.role, .int .i64 a.phase, .int .i64 a.step, ka, .string (T a.own), .string (T a.peer), .string (T a.user), .int .i64 a.err] 25) (.cells #[.int .i64 b.id, .string (T b.proto), .int .i64 b.role, .int .i64 b.phase, .int .i64 b.step, kb, .string (T b.own), .string (T b.peer), .string (T b.user), .int .i64 b.err] 25) (.cells #[.int .i64 0, .string (T []), .int .i64 0, .int .i64 0, .int .i64 0, .slice none 0 0, .string (T []), .string (T []), .string (T []), .int .i64 0] 25)).alloc (by simp; omega) (.cells #[.int .i64 0, .string (T []), .int .i64 0, .int .i64 0, .int .i64 0, .slice none 0 0, .string (T []), .string (T []), .string (T []), .int .i64 0] 25)
  refine ⟨alloc_keepR h1, alloc_keepR h2, alloc_keepR h3, ?_, ha.below hB, hb.below hB, hK.below hB, hK.1, hB⟩
  have := heap_alloc_new (((w.alloc (.cells #[.int .i64 a.id, .string (T a.proto), .int .i64 a.role, .int .i64 a.phase, .int .i64 a.step, ka, .string (T a.own), .string (T a.peer), .string (T a.user), .int .i64 a.err] 25)).alloc (.cells #[.int .i64 b.id, .string (T b.proto), .int .i64 b.role, .int .i64 b.phase, .int .i64 b.step, kb, .string (T b.own), .string (T b.peer), .string (T b.user), .int .i64 b.err] 25)).alloc (.cells #[.int .i64 0, .string (T []), .int .i64 0, .int .i64 0, .int .i64 0, .slice none 0 0, .string (T []), .string (T []), .string (T []), .int .i64 0] 25)) (.cells #[.int .i64 0, .string (T []), .int .i64 0, .int .i64 0, .int .i64 0, .slice none 0 0, .string (T []), .string (T []), .string (T []), .int .i64 0] 25)
  simpa using this
/-- What the last region reads. -/
abbrev RxS (W : World) (g h : Nat) (a b : Cnv) (ka kb : Value) : Prop :=
  W.cell? ⟨g, 0, none⟩ = some ((.int .i64 a.id)) ∧ W.cell? ⟨g, 1, none⟩ = some ((.string (T a.proto))) ∧ W.cell? ⟨g, 2, none⟩ = some ((.int .i64 a.role)) ∧ W.cell? ⟨g, 3, none⟩ = some ((.int .i64 a.phase)) ∧ W.cell? ⟨g, 4, none⟩ = some ((.int .i64 a.step)) ∧ W.cell? ⟨g, 5, none⟩ = some ((ka)) ∧ W.cell? ⟨g, 6, none⟩ = some ((.string (T a.own))) ∧ W.cell? ⟨g, 7, none⟩ = some ((.string (T a.peer))) ∧ W.cell? ⟨g, 8, none⟩ = some ((.string (T a.user))) ∧ W.cell? ⟨g, 9, none⟩ = some ((.int .i64 a.err)) ∧ W.cell? ⟨h, 0, none⟩ = some ((.int .i64 b.id)) ∧ W.cell? ⟨h, 1, none⟩ = some ((.string (T b.proto))) ∧ W.cell? ⟨h, 2, none⟩ = some ((.int .i64 b.role)) ∧ W.cell? ⟨h, 3, none⟩ = some ((.int .i64 b.phase)) ∧ W.cell? ⟨h, 4, none⟩ = some ((.int .i64 b.step)) ∧ W.cell? ⟨h, 5, none⟩ = some ((kb)) ∧ W.cell? ⟨h, 6, none⟩ = some ((.string (T b.own))) ∧ W.cell? ⟨h, 7, none⟩ = some ((.string (T b.peer))) ∧ W.cell? ⟨h, 8, none⟩ = some ((.string (T b.user))) ∧ W.cell? ⟨h, 9, none⟩ = some ((.int .i64 b.err))
theorem rx_s {W : World} {g h : Nat} {t2 t6 : TypeId} {a b : Cnv} {ka kb : Value} (h2 : W.heap[g]? = some (.cells #[.int .i64 a.id, .string (T a.proto), .int .i64 a.role, .int .i64 a.phase, .int .i64 a.step, ka, .string (T a.own), .string (T a.peer), .string (T a.user), .int .i64 a.err] t2 (0, 0))) (h6 : W.heap[h]? = some (.cells #[.int .i64 b.id, .string (T b.proto), .int .i64 b.role, .int .i64 b.phase, .int .i64 b.step, kb, .string (T b.own), .string (T b.peer), .string (T b.user), .int .i64 b.err] t6 (0, 0))) : RxS W g h a b ka kb := by
  obtain ⟨⟨x0, x1, x2, x3, x4, x5, x6, x7, x8, x9⟩, _⟩ := cv_readsZ h2
  obtain ⟨⟨z0, z1, z2, z3, z4, z5, z6, z7, z8, z9⟩, _⟩ := cv_readsZ h6
  exact ⟨x0, x1, x2, x3, x4, x5, x6, x7, x8, x9, z0, z1, z2, z3, z4, z5, z6, z7, z8, z9⟩
/-- What stays at the end. -/
structure RnE (w W : World) (a b : Cnv) (ka kb : Value) : Prop where
  ra : W.heap[w.heap.size]? = some (.cells #[.int .i64 a.id, .string (T a.proto), .int .i64 a.role, .int .i64 a.phase, .int .i64 a.step, ka, .string (T a.own), .string (T a.peer), .string (T a.user), .int .i64 a.err] 25 (0, 0))
  rb : W.heap[w.heap.size + 1]? = some (.cells #[.int .i64 b.id, .string (T b.proto), .int .i64 b.role, .int .i64 b.phase, .int .i64 b.step, kb, .string (T b.own), .string (T b.peer), .string (T b.user), .int .i64 b.err] 25 (0, 0))
  ta : Atts W ka a.key
  tb : Atts W kb b.key
  bl : Below w.heap.size w W
theorem RnS.e {w W : World} {a b : Cnv} {ka kb : Value} (h : RnS w W a b ka kb) : RnE w W a b ka kb := ⟨h.ra, h.rb, h.ta, h.tb, h.bl⟩
theorem RnE.grown {w W W' : World} {a b : Cnv} {ao bo : Option Addr} {m cp n dp p : Nat} (h : RnE w W a b (.slice ao m cp) (.slice bo n dp)) (hg : W.grownBy W' (some p)) (hp : w.heap.size + 2 ≤ p ∧ p < w.heap.size + 4) (ha : Far w ao a.key) (hb : Far w bo b.key) : RnE w W' a b (.slice ao m cp) (.slice bo n dp) :=
  ⟨grown_keep hg h.ra (by omega), grown_keep hg h.rb (by omega), atts_keep h.ta hg (fun q hq hn => by have := ha q hq hn; omega), atts_keep h.tb hg (fun q hq hn => by have := hb q hq hn; omega), grown_below h.bl hg (by omega)⟩
theorem RnE.drew {w W : World} {a b : Cnv} {ka kb : Value} (h : RnE w W a b ka kb) : RnE w W.drew a b ka kb := ⟨h.ra, h.rb, h.ta.below (below_drew1 (Below.refl _ _)), h.tb.below (below_drew1 (Below.refl _ _)), below_drew1 h.bl⟩
/-- A slice of a block behind the boxes. -/
def NB (w : World) (ao : Option Addr) : Prop := ∀ q, ao = some q → w.heap.size + 4 ≤ q.block
theorem NB.far {w : World} {ao : Option Addr} (h : NB w ao) (l : List Att) : Far w ao l := fun q hq _ => .inr (h q hq)
theorem NB.ge {w : World} {ao : Option Addr} (h : NB w ao) : ∀ q, ao = some q → w.heap.size ≤ q.block := fun q hq => by have := h q hq; omega
/-- What a round keeps. -/
structure RnI (k : Nat) (la lb : List Att) (a b : Cnv) : Prop where
  fa : Fine a
  fb : Fine b
  sa : 0 ≤ a.step ∧ a.step ≤ 1000 + (k : Int)
  sb : 0 ≤ b.step ∧ b.step ≤ 1000 + (k : Int)
  ka : a.key = la
  kb : b.key = lb
theorem RnI.sA {k : Nat} {la lb : List Att} {a b : Cnv} (h : RnI k la lb a b) (hk : k ≤ 16) : 0 ≤ a.step ∧ a.step ≤ 1000000 := ⟨h.sa.1, by have := h.sa.2; omega⟩
theorem RnI.sB {k : Nat} {la lb : List Att} {a b : Cnv} (h : RnI k la lb a b) (hk : k ≤ 16) : 0 ≤ b.step ∧ b.step ≤ 1000000 := ⟨h.sb.1, by have := h.sb.2; omega⟩
theorem RnI.roundA {k : Nat} {la lb : List Att} {a b : Cnv} (h : RnI k la lb a b) : RnI (k + 1) la lb (Au.read a).1 (Au.write b (Au.read a).2.1).1 := by
  have h1 := Au.read_step h.sa
  have h2 := Au.write_step h.sb (Au.read a).2.1
  exact ⟨Au.read_fine h.fa, Au.write_fine h.fb _, ⟨h1.1, by omega⟩, ⟨h2.1, by omega⟩, (Au.read_key _).trans h.ka, (Au.write_key _ _).trans h.kb⟩
theorem RnI.roundB {k : Nat} {la lb : List Att} {a b : Cnv} (h : RnI k la lb a b) : RnI (k + 1) la lb (Au.write a (Au.read b).2.1).1 (Au.read b).1 := by
  have h1 := Au.read_step h.sb
  have h2 := Au.write_step h.sa (Au.read b).2.1
  exact ⟨Au.write_fine h.fa _, Au.read_fine h.fb, ⟨h2.1, by omega⟩, ⟨h1.1, by omega⟩, (Au.write_key _ _).trans h.ka, (Au.read_key _).trans h.kb⟩
namespace Au
theorem run_a {k : Nat} {a b : Cnv} {R : Cnv × Cnv × Int} (h : k < 16) (hp : a.phase = 1 ∧ b.phase = 2) (hR : run (16 - k) k a b = R) : run (16 - (k + 1)) ((k + 1 : Nat) : Int) (read a).1 (write b (read a).2.1).1 = R := by
  rw [show 16 - k = (16 - (k + 1)) + 1 from by omega] at hR
  rw [run, if_pos hp] at hR
  rw [← hR]; rfl
theorem run_b {k : Nat} {a b : Cnv} {R : Cnv × Cnv × Int} (h : k < 16) (hp : b.phase = 1 ∧ a.phase = 2) (hR : run (16 - k) k a b = R) : run (16 - (k + 1)) ((k + 1 : Nat) : Int) (write a (read b).2.1).1 (read b).1 = R := by
  rw [show 16 - k = (16 - (k + 1)) + 1 from by omega] at hR
  rw [run, if_neg (by omega), if_pos hp] at hR
  rw [← hR]; rfl
theorem run_end {k : Nat} {a b : Cnv} {R : Cnv × Cnv × Int} (h : k = 16 ∨ (¬ (a.phase = 1 ∧ b.phase = 2) ∧ ¬ (b.phase = 1 ∧ a.phase = 2))) (hR : run (16 - k) k a b = R) : R = (a, b, (k : Int)) := by
  rcases h with rfl | ⟨h1, h2⟩
  · exact hR.symm
  · cases h3 : 16 - k with
    | zero => rw [h3] at hR; exact hR.symm
    | succ j => rw [h3, run, if_neg h1, if_neg h2] at hR; exact hR.symm
end Au
set_option maxRecDepth 100000 in
set_option maxHeartbeats 16000000 in
theorem run_any (a b : Cnv) (ao bo : Option Addr) (m cp n dp : Nat) (w : World) (ha : Atts w (.slice ao m cp) a.key) (hb : Atts w (.slice bo n dp) b.key) (hfa : Fine a) (hfb : Fine b) (hsa : 0 ≤ a.step ∧ a.step ≤ 1000) (hsb : 0 ≤ b.step ∧ b.step ≤ 1000) (hK : KIn w) :
    Calls Tryz.prog 16 #[.agg #[.int .i64 a.id, .string (T a.proto), .int .i64 a.role, .int .i64 a.phase, .int .i64 a.step, (.slice ao m cp), .string (T a.own), .string (T a.peer), .string (T a.user), .int .i64 a.err], .agg #[.int .i64 b.id, .string (T b.proto), .int .i64 b.role, .int .i64 b.phase, .int .i64 b.step, (.slice bo n dp), .string (T b.own), .string (T b.peer), .string (T b.user), .int .i64 b.err]] w (RunSays w (Au.run 16 0 a b) a.key b.key) := by
  obtain ⟨R, hR⟩ : ∃ R, Au.run 16 0 a b = R := ⟨_, rfl⟩
  rw [hR]
  obtain ⟨la, hla⟩ : ∃ l, a.key = l := ⟨_, rfl⟩
  obtain ⟨lb, hlb⟩ : ∃ l, b.key = l := ⟨_, rfl⟩
  have HOA := Lib.hid (far_old ha)
  have HFO := Lib.hid (far_old hb)
  have HS0 := Lib.hid ((RnS.start w a b (.slice ao m cp) (.slice bo n dp) ha hb hK).next (below_drew1 (Below.refl _ _)))
  have HCA := Lib.hid (fun (W : World) (h : RnS w W a b (.slice ao m cp) (.slice bo n dp)) => copied_any a ao m cp W h.ta hfa)
  have HCB := Lib.hid (fun (W : World) (h : RnS w W a b (.slice ao m cp) (.slice bo n dp)) => copied_any b bo n dp W h.tb hfb)
  have HI0 := Lib.hid (show RnI 0 la lb a b from ⟨hfa, hfb, ⟨hsa.1, by have := hsa.2; omega⟩, ⟨hsb.1, by have := hsb.2; omega⟩, hla, hlb⟩)
  have HR0 := Lib.hid hR
  rw [hla, hlb]
  clear ha hb hfa hfb hsa hsb hK hR hla hlb
  go_enter Tryz.func16, Tryz.ntmps16
  go_upto_region 1 with fail
  generalize World.alloc _ _ = W0 at *
  go_cut [] (fun w' => ∃ a1 n1 k1 a2 n2 k2, Hid (RnS w w' a b (.slice a1 n1 k1) (.slice a2 n2 k2)) ∧ Hid (NB w a1) ∧ Hid (NB w a2))
  case first =>
    repeat (rename (∀ (a : Act) (w : World), Code.wp _ _ _ a w → _) => ax; clear ax)
    clear HI0 HR0
    obtain ⟨⟨x0, x1, x2, x3, x4, x5, x6, x7, x8, x9⟩, ⟨u0, u1, u2, u3, u4, u5, u6, u7, u8, u9⟩⟩ := cv_readsZ (RnS.ra HS0.out)
    obtain ⟨⟨y0, y1, y2, y3, y4, y5, y6, y7, y8, y9⟩, ⟨v0, v1, v2, v3, v4, v5, v6, v7, v8, v9⟩⟩ := cv_readsZ (RnS.rb HS0.out)
    refine wp_region_held_drew (S := fun _ => True) (by kernel_rfl) trivial (fun _ => ?_)
    refine wpAnyH_ready (rs := [0, 2]) (by kernel_rfl) (by simp) ?_
    refine AllReadyH.cons rfl (fun K hK => ?_) (AllReadyH.cons rfl (fun K hK => ?_) AllReadyH.nil)
    · go_simp
      refine hK.out _ _ trivial (fun _ => ?_)
      clear hK K
      try simp only [Act.put, List.setIfInBounds_toArray, List.set_cons_zero, List.set_cons_succ]
      refine wpAnyH_ready (rs := [1, 2]) (by kernel_rfl) (by simp) ?_
      refine AllReadyH.cons rfl (fun K hK => ?_) (AllReadyH.cons rfl (fun K hK => ?_) AllReadyH.nil)
      · go_simp
        go_wp2_with (go_at_call 26; (with_reducible refine (HCA.out _ HS0.out).mono ?_); rintro e wa ⟨a1, n1, k1, rfl, hta, hab, hba⟩)
        clear x0 x1 x2 x3 x4 x5 x6 x7 x8 x9 u0 u1 u2 u3 u4 u5 u6 u7 u8 u9 y0 y1 y2 y3 y4 y5 y6 y7 y8 y9 v0 v1 v2 v3 v4 v5 v6 v7 v8 v9
        have HSA := Lib.hid (RnS.next HS0.out hba)
        have HTA := Lib.hid hta
        have HFA := Lib.hid (show NB w a1 from fun q hq => by have := hab q hq; have := row_ltA HS0.out.r3; omega)
        obtain ⟨⟨x0, x1, x2, x3, x4, x5, x6, x7, x8, x9⟩, ⟨u0, u1, u2, u3, u4, u5, u6, u7, u8, u9⟩⟩ := cv_readsZ (RnS.ra HSA.out)
        obtain ⟨⟨y0, y1, y2, y3, y4, y5, y6, y7, y8, y9⟩, ⟨v0, v1, v2, v3, v4, v5, v6, v7, v8, v9⟩⟩ := cv_readsZ (RnS.rb HSA.out)
        clear hta hab hba
        refine hK.out _ _ trivial (fun _ => ?_)
        clear hK K
        try simp only [Act.put, List.setIfInBounds_toArray, List.set_cons_zero, List.set_cons_succ]
        refine wpAnyH_ready (rs := [2]) (by kernel_rfl) (by simp) ?_
        refine AllReadyH.cons rfl (fun K hK => ?_) AllReadyH.nil
        go_simp
        refine hK.out _ _ trivial (fun _ => ?_)
        clear hK K
        try simp only [Act.put, List.setIfInBounds_toArray, List.set_cons_zero, List.set_cons_succ]
        refine wpAnyH_ready (rs := [3]) (by kernel_rfl) (by simp) ?_
        refine AllReadyH.cons rfl (fun K hK => ?_) AllReadyH.nil
        go_simp
        go_wp2_with (go_at_call 26; (with_reducible refine (HCB.out _ HSA.out).mono ?_); rintro e wb ⟨a2, n2, k2, rfl, htb, hbb, hbl⟩)
        have HSB := Lib.hid (RnS.next HSA.out hbl)
        have HTA2 := Lib.hid (HTA.out.below hbl)
        have HTB := Lib.hid htb
        have HFB := Lib.hid (show NB w a2 from fun q hq => by have := hbb q hq; have := row_ltA HSA.out.r3; omega)
        clear x0 x1 x2 x3 x4 x5 x6 x7 x8 x9 u0 u1 u2 u3 u4 u5 u6 u7 u8 u9 y0 y1 y2 y3 y4 y5 y6 y7 y8 y9 v0 v1 v2 v3 v4 v5 v6 v7 v8 v9
        obtain ⟨⟨x0, x1, x2, x3, x4, x5, x6, x7, x8, x9⟩, ⟨u0, u1, u2, u3, u4, u5, u6, u7, u8, u9⟩⟩ := cv_readsZ (RnS.ra HSB.out)
        clear htb hbb hbl
        refine hK.out _ _ trivial (fun _ => ?_)
        clear hK K
        try simp only [Act.put, List.setIfInBounds_toArray, List.set_cons_zero, List.set_cons_succ]
        refine wpAnyH_ready (rs := [4]) (by kernel_rfl) (by simp) ?_
        refine AllReadyH.cons rfl (fun K hK => ?_) AllReadyH.nil
        go_simp
        refine hK.out _ _ trivial (fun _ => ?_)
        clear hK K
        try simp only [Act.put, List.setIfInBounds_toArray, List.set_cons_zero, List.set_cons_succ]
        have hq := cv_stored ((.int .i64 a.id)) ((.string (T a.proto))) ((.int .i64 a.role)) ((.int .i64 a.phase)) ((.int .i64 a.step)) (((.slice a1 n1 k1))) ((.string (T a.own))) ((.string (T a.peer))) ((.string (T a.user))) ((.int .i64 a.err)) HSB.out.ra
        generalize World.setCell _ _ _ = W4 at *
        have HS4 := Lib.hid (RnS.setA HSB.out hq.2 hq.1 HTA2.out (HFA.out.far _) HFO.out)
        have HTB4 := Lib.hid (atts_keep HTB.out hq.2 (fun q hq' hn => by have := HFB.out q hq'; omega))
        clear hq
        clear x0 x1 x2 x3 x4 x5 x6 x7 x8 x9 u0 u1 u2 u3 u4 u5 u6 u7 u8 u9
        obtain ⟨⟨y0, y1, y2, y3, y4, y5, y6, y7, y8, y9⟩, ⟨v0, v1, v2, v3, v4, v5, v6, v7, v8, v9⟩⟩ := cv_readsZ (RnS.rb HS4.out)
        refine wpAnyH_ready (rs := [5]) (by kernel_rfl) (by simp) ?_
        refine AllReadyH.cons rfl (fun K hK => ?_) AllReadyH.nil
        go_simp
        refine hK.out _ _ trivial (fun _ => ?_)
        clear hK K
        try simp only [Act.put, List.setIfInBounds_toArray, List.set_cons_zero, List.set_cons_succ]
        have hq := cv_stored ((.int .i64 b.id)) ((.string (T b.proto))) ((.int .i64 b.role)) ((.int .i64 b.phase)) ((.int .i64 b.step)) (((.slice a2 n2 k2))) ((.string (T b.own))) ((.string (T b.peer))) ((.string (T b.user))) ((.int .i64 b.err)) HS4.out.rb
        generalize World.setCell _ _ _ = W5 at *
        have HS5 := Lib.hid (RnS.setB HS4.out hq.2 hq.1 HTB4.out (HFB.out.far _) (HFA.out.far _))
        clear hq
        clear y0 y1 y2 y3 y4 y5 y6 y7 y8 y9 v0 v1 v2 v3 v4 v5 v6 v7 v8 v9
        refine wpAnyH_done (by kernel_rfl) ?_ _
        go_wp2_with fail
        go_meet
        exact ⟨a1, n1, k1, a2, n2, k2, HS5, HFA, HFB⟩
      · go_simp
        refine hK.out _ _ trivial (fun _ => ?_)
        clear hK K
        try simp only [Act.put, List.setIfInBounds_toArray, List.set_cons_zero, List.set_cons_succ]
        refine wpAnyH_ready (rs := [1]) (by kernel_rfl) (by simp) ?_
        refine AllReadyH.cons rfl (fun K hK => ?_) AllReadyH.nil
        go_simp
        go_wp2_with (go_at_call 26; (with_reducible refine (HCA.out _ HS0.out).mono ?_); rintro e wa ⟨a1, n1, k1, rfl, hta, hab, hba⟩)
        clear x0 x1 x2 x3 x4 x5 x6 x7 x8 x9 u0 u1 u2 u3 u4 u5 u6 u7 u8 u9 y0 y1 y2 y3 y4 y5 y6 y7 y8 y9 v0 v1 v2 v3 v4 v5 v6 v7 v8 v9
        have HSA := Lib.hid (RnS.next HS0.out hba)
        have HTA := Lib.hid hta
        have HFA := Lib.hid (show NB w a1 from fun q hq => by have := hab q hq; have := row_ltA HS0.out.r3; omega)
        obtain ⟨⟨x0, x1, x2, x3, x4, x5, x6, x7, x8, x9⟩, ⟨u0, u1, u2, u3, u4, u5, u6, u7, u8, u9⟩⟩ := cv_readsZ (RnS.ra HSA.out)
        obtain ⟨⟨y0, y1, y2, y3, y4, y5, y6, y7, y8, y9⟩, ⟨v0, v1, v2, v3, v4, v5, v6, v7, v8, v9⟩⟩ := cv_readsZ (RnS.rb HSA.out)
        clear hta hab hba
        refine hK.out _ _ trivial (fun _ => ?_)
        clear hK K
        try simp only [Act.put, List.setIfInBounds_toArray, List.set_cons_zero, List.set_cons_succ]
        refine wpAnyH_ready (rs := [3]) (by kernel_rfl) (by simp) ?_
        refine AllReadyH.cons rfl (fun K hK => ?_) AllReadyH.nil
        go_simp
        go_wp2_with (go_at_call 26; (with_reducible refine (HCB.out _ HSA.out).mono ?_); rintro e wb ⟨a2, n2, k2, rfl, htb, hbb, hbl⟩)
        have HSB := Lib.hid (RnS.next HSA.out hbl)
        have HTA2 := Lib.hid (HTA.out.below hbl)
        have HTB := Lib.hid htb
        have HFB := Lib.hid (show NB w a2 from fun q hq => by have := hbb q hq; have := row_ltA HSA.out.r3; omega)
        clear x0 x1 x2 x3 x4 x5 x6 x7 x8 x9 u0 u1 u2 u3 u4 u5 u6 u7 u8 u9 y0 y1 y2 y3 y4 y5 y6 y7 y8 y9 v0 v1 v2 v3 v4 v5 v6 v7 v8 v9
        obtain ⟨⟨x0, x1, x2, x3, x4, x5, x6, x7, x8, x9⟩, ⟨u0, u1, u2, u3, u4, u5, u6, u7, u8, u9⟩⟩ := cv_readsZ (RnS.ra HSB.out)
        clear htb hbb hbl
        refine hK.out _ _ trivial (fun _ => ?_)
        clear hK K
        try simp only [Act.put, List.setIfInBounds_toArray, List.set_cons_zero, List.set_cons_succ]
        refine wpAnyH_ready (rs := [4]) (by kernel_rfl) (by simp) ?_
        refine AllReadyH.cons rfl (fun K hK => ?_) AllReadyH.nil
        go_simp
        refine hK.out _ _ trivial (fun _ => ?_)
        clear hK K
        try simp only [Act.put, List.setIfInBounds_toArray, List.set_cons_zero, List.set_cons_succ]
        have hq := cv_stored ((.int .i64 a.id)) ((.string (T a.proto))) ((.int .i64 a.role)) ((.int .i64 a.phase)) ((.int .i64 a.step)) (((.slice a1 n1 k1))) ((.string (T a.own))) ((.string (T a.peer))) ((.string (T a.user))) ((.int .i64 a.err)) HSB.out.ra
        generalize World.setCell _ _ _ = W4 at *
        have HS4 := Lib.hid (RnS.setA HSB.out hq.2 hq.1 HTA2.out (HFA.out.far _) HFO.out)
        have HTB4 := Lib.hid (atts_keep HTB.out hq.2 (fun q hq' hn => by have := HFB.out q hq'; omega))
        clear hq
        clear x0 x1 x2 x3 x4 x5 x6 x7 x8 x9 u0 u1 u2 u3 u4 u5 u6 u7 u8 u9
        obtain ⟨⟨y0, y1, y2, y3, y4, y5, y6, y7, y8, y9⟩, ⟨v0, v1, v2, v3, v4, v5, v6, v7, v8, v9⟩⟩ := cv_readsZ (RnS.rb HS4.out)
        refine wpAnyH_ready (rs := [5]) (by kernel_rfl) (by simp) ?_
        refine AllReadyH.cons rfl (fun K hK => ?_) AllReadyH.nil
        go_simp
        refine hK.out _ _ trivial (fun _ => ?_)
        clear hK K
        try simp only [Act.put, List.setIfInBounds_toArray, List.set_cons_zero, List.set_cons_succ]
        have hq := cv_stored ((.int .i64 b.id)) ((.string (T b.proto))) ((.int .i64 b.role)) ((.int .i64 b.phase)) ((.int .i64 b.step)) (((.slice a2 n2 k2))) ((.string (T b.own))) ((.string (T b.peer))) ((.string (T b.user))) ((.int .i64 b.err)) HS4.out.rb
        generalize World.setCell _ _ _ = W5 at *
        have HS5 := Lib.hid (RnS.setB HS4.out hq.2 hq.1 HTB4.out (HFB.out.far _) (HFA.out.far _))
        clear hq
        clear y0 y1 y2 y3 y4 y5 y6 y7 y8 y9 v0 v1 v2 v3 v4 v5 v6 v7 v8 v9
        refine wpAnyH_done (by kernel_rfl) ?_ _
        go_wp2_with fail
        go_meet
        exact ⟨a1, n1, k1, a2, n2, k2, HS5, HFA, HFB⟩
    · go_simp
      refine hK.out _ _ trivial (fun _ => ?_)
      clear hK K
      try simp only [Act.put, List.setIfInBounds_toArray, List.set_cons_zero, List.set_cons_succ]
      refine wpAnyH_ready (rs := [0]) (by kernel_rfl) (by simp) ?_
      refine AllReadyH.cons rfl (fun K hK => ?_) AllReadyH.nil
      go_simp
      refine hK.out _ _ trivial (fun _ => ?_)
      clear hK K
      try simp only [Act.put, List.setIfInBounds_toArray, List.set_cons_zero, List.set_cons_succ]
      refine wpAnyH_ready (rs := [1]) (by kernel_rfl) (by simp) ?_
      refine AllReadyH.cons rfl (fun K hK => ?_) AllReadyH.nil
      go_simp
      go_wp2_with (go_at_call 26; (with_reducible refine (HCA.out _ HS0.out).mono ?_); rintro e wa ⟨a1, n1, k1, rfl, hta, hab, hba⟩)
      clear x0 x1 x2 x3 x4 x5 x6 x7 x8 x9 u0 u1 u2 u3 u4 u5 u6 u7 u8 u9 y0 y1 y2 y3 y4 y5 y6 y7 y8 y9 v0 v1 v2 v3 v4 v5 v6 v7 v8 v9
      have HSA := Lib.hid (RnS.next HS0.out hba)
      have HTA := Lib.hid hta
      have HFA := Lib.hid (show NB w a1 from fun q hq => by have := hab q hq; have := row_ltA HS0.out.r3; omega)
      obtain ⟨⟨x0, x1, x2, x3, x4, x5, x6, x7, x8, x9⟩, ⟨u0, u1, u2, u3, u4, u5, u6, u7, u8, u9⟩⟩ := cv_readsZ (RnS.ra HSA.out)
      obtain ⟨⟨y0, y1, y2, y3, y4, y5, y6, y7, y8, y9⟩, ⟨v0, v1, v2, v3, v4, v5, v6, v7, v8, v9⟩⟩ := cv_readsZ (RnS.rb HSA.out)
      clear hta hab hba
      refine hK.out _ _ trivial (fun _ => ?_)
      clear hK K
      try simp only [Act.put, List.setIfInBounds_toArray, List.set_cons_zero, List.set_cons_succ]
      refine wpAnyH_ready (rs := [3]) (by kernel_rfl) (by simp) ?_
      refine AllReadyH.cons rfl (fun K hK => ?_) AllReadyH.nil
      go_simp
      go_wp2_with (go_at_call 26; (with_reducible refine (HCB.out _ HSA.out).mono ?_); rintro e wb ⟨a2, n2, k2, rfl, htb, hbb, hbl⟩)
      have HSB := Lib.hid (RnS.next HSA.out hbl)
      have HTA2 := Lib.hid (HTA.out.below hbl)
      have HTB := Lib.hid htb
      have HFB := Lib.hid (show NB w a2 from fun q hq => by have := hbb q hq; have := row_ltA HSA.out.r3; omega)
      clear x0 x1 x2 x3 x4 x5 x6 x7 x8 x9 u0 u1 u2 u3 u4 u5 u6 u7 u8 u9 y0 y1 y2 y3 y4 y5 y6 y7 y8 y9 v0 v1 v2 v3 v4 v5 v6 v7 v8 v9
      obtain ⟨⟨x0, x1, x2, x3, x4, x5, x6, x7, x8, x9⟩, ⟨u0, u1, u2, u3, u4, u5, u6, u7, u8, u9⟩⟩ := cv_readsZ (RnS.ra HSB.out)
      clear htb hbb hbl
      refine hK.out _ _ trivial (fun _ => ?_)
      clear hK K
      try simp only [Act.put, List.setIfInBounds_toArray, List.set_cons_zero, List.set_cons_succ]
      refine wpAnyH_ready (rs := [4]) (by kernel_rfl) (by simp) ?_
      refine AllReadyH.cons rfl (fun K hK => ?_) AllReadyH.nil
      go_simp
      refine hK.out _ _ trivial (fun _ => ?_)
      clear hK K
      try simp only [Act.put, List.setIfInBounds_toArray, List.set_cons_zero, List.set_cons_succ]
      have hq := cv_stored ((.int .i64 a.id)) ((.string (T a.proto))) ((.int .i64 a.role)) ((.int .i64 a.phase)) ((.int .i64 a.step)) (((.slice a1 n1 k1))) ((.string (T a.own))) ((.string (T a.peer))) ((.string (T a.user))) ((.int .i64 a.err)) HSB.out.ra
      generalize World.setCell _ _ _ = W4 at *
      have HS4 := Lib.hid (RnS.setA HSB.out hq.2 hq.1 HTA2.out (HFA.out.far _) HFO.out)
      have HTB4 := Lib.hid (atts_keep HTB.out hq.2 (fun q hq' hn => by have := HFB.out q hq'; omega))
      clear hq
      clear x0 x1 x2 x3 x4 x5 x6 x7 x8 x9 u0 u1 u2 u3 u4 u5 u6 u7 u8 u9
      obtain ⟨⟨y0, y1, y2, y3, y4, y5, y6, y7, y8, y9⟩, ⟨v0, v1, v2, v3, v4, v5, v6, v7, v8, v9⟩⟩ := cv_readsZ (RnS.rb HS4.out)
      refine wpAnyH_ready (rs := [5]) (by kernel_rfl) (by simp) ?_
      refine AllReadyH.cons rfl (fun K hK => ?_) AllReadyH.nil
      go_simp
      refine hK.out _ _ trivial (fun _ => ?_)
      clear hK K
      try simp only [Act.put, List.setIfInBounds_toArray, List.set_cons_zero, List.set_cons_succ]
      have hq := cv_stored ((.int .i64 b.id)) ((.string (T b.proto))) ((.int .i64 b.role)) ((.int .i64 b.phase)) ((.int .i64 b.step)) (((.slice a2 n2 k2))) ((.string (T b.own))) ((.string (T b.peer))) ((.string (T b.user))) ((.int .i64 b.err)) HS4.out.rb
      generalize World.setCell _ _ _ = W5 at *
      have HS5 := Lib.hid (RnS.setB HS4.out hq.2 hq.1 HTB4.out (HFB.out.far _) (HFA.out.far _))
      clear hq
      clear y0 y1 y2 y3 y4 y5 y6 y7 y8 y9 v0 v1 v2 v3 v4 v5 v6 v7 v8 v9
      refine wpAnyH_done (by kernel_rfl) ?_ _
      go_wp2_with fail
      go_meet
      exact ⟨a1, n1, k1, a2, n2, k2, HS5, HFA, HFB⟩
  case rest =>
  obtain ⟨sa0, na0, ca0, sb0, nb0, cb0, HS1, HFA1, HFB1⟩ := hcut
  clear HOA HFO HCA HCB HS0
  go_wp2_with fail
  go_loopw [7] (fun i wr => ∃ (k : Nat) (a1 b1 : Cnv) (sa : Option Addr) (na ca : Nat) (sb : Option Addr) (nb cb : Nat), i = .int .i64 (k : Int) ∧ k ≤ 16 ∧ Hid (RnS w wr a1 b1 (.slice sa na ca) (.slice sb nb cb)) ∧ Hid (NB w sa) ∧ Hid (NB w sb) ∧ Hid (RnI k la lb a1 b1 ∧ Au.run (16 - k) (k : Int) a1 b1 = R)) (fun i _ => 16 - (intOf i).toNat)
  case atStart => exact ⟨0, a, b, _, _, _, _, _, _, rfl, by omega, HS1, HFA1, HFB1, Lib.hid ⟨HI0.out, HR0.out⟩⟩
  case round =>
    obtain ⟨k, a1, b1, sa, na, ca, sb, nb, cb, rfl, hk, HS, HFA, HFB, HIR⟩ := hrel
    have HI := Lib.hid HIR.out.1
    clear HS1 HFA1 HFB1 HI0 HR0
    obtain ⟨⟨_, _, _, x3, _⟩, _⟩ := cv_readsZ HS.out.ra
    obtain ⟨⟨_, _, _, y3, _⟩, _⟩ := cv_readsZ HS.out.rb
    by_cases hlt : k < 16
    rotate_left
    · obtain rfl : k = 16 := by omega
      have HRE := Lib.hid (Au.run_end (.inl rfl) HIR.out.2)
      clear hlt x3 y3 HIR
      go_upto_region 13 with fail
      have HSW := Lib.hid (RnS.next HS.out (below_drew1 (Below.refl _ _)))
      refine wp_region_held_drew (S := (fun W' => RxS W' w.heap.size (w.heap.size + 1) a1 b1 (.slice sa na ca) (.slice sb nb cb))) (by kernel_rfl) (rx_s HSW.out.ra HSW.out.rb) (fun hHeld => ?_)
      refine wpAnyH_takeD (i := 0) (d := 62) (v := ?e0) rfl rfl (by kernel_rfl) (by kernel_rfl) (by kernel_rfl) (fun _ _ _ h => h) (Or.inl ⟨by rfl, ?ye0⟩) (by assumption) ?re0
      case ye0 => (intro w hSw; (try dsimp only at hSw); go_simp <;> with_reducible rfl)
      try simp only [Act.put, List.setIfInBounds_toArray, List.set_cons_zero, List.set_cons_succ]
      refine wpAnyH_takeD (i := 1) (d := 63) (v := ?e1) rfl rfl (by kernel_rfl) (by kernel_rfl) (by kernel_rfl) (fun _ _ _ h => h) (Or.inl ⟨by rfl, ?ye1⟩) (by assumption) ?re1
      case ye1 => (intro w hSw; (try dsimp only at hSw); go_simp <;> with_reducible rfl)
      try simp only [Act.put, List.setIfInBounds_toArray, List.set_cons_zero, List.set_cons_succ]
      refine wpAnyH_takeD (i := 2) (d := 64) (v := ?e2) rfl rfl (by kernel_rfl) (by kernel_rfl) (by kernel_rfl) (fun _ _ _ h => h) (Or.inl ⟨by rfl, ?ye2⟩) (by assumption) ?re2
      case ye2 => (intro w hSw; (try dsimp only at hSw); go_simp <;> with_reducible rfl)
      try simp only [Act.put, List.setIfInBounds_toArray, List.set_cons_zero, List.set_cons_succ]
      obtain ⟨⟨x0, x1, x2, x3, x4, x5, x6, x7, x8, x9⟩, ⟨u0, u1, u2, u3, u4, u5, u6, u7, u8, u9⟩⟩ := cv_readsZ (RnS.r2 HS.out)
      refine wpAnyH_ready (rs := [3]) (by kernel_rfl) (by simp) ?_
      refine AllReadyH.cons rfl (fun K hK => ?_) AllReadyH.nil
      go_simp
      have hq := cv_stored ((.int .i64 a1.id)) ((.string (T a1.proto))) ((.int .i64 a1.role)) ((.int .i64 a1.phase)) ((.int .i64 a1.step)) (((.slice sa na ca))) ((.string (T a1.own))) ((.string (T a1.peer))) ((.string (T a1.user))) ((.int .i64 a1.err)) HS.out.r2
      generalize World.setCell _ _ _ = W4 at *
      have HE2 := Lib.hid hq.1
      have HE3 := Lib.hid (grown_keep hq.2 HS.out.r3 (by omega))
      have HE := Lib.hid (RnE.grown HS.out.e hq.2 (by omega) (HFA.out.far _) (HFB.out.far _))
      clear hq HSW
      clear x0 x1 x2 x3 x4 x5 x6 x7 x8 x9 u0 u1 u2 u3 u4 u5 u6 u7 u8 u9
      refine hK.out _ _ (rx_s HE.out.drew.ra HE.out.drew.rb) (fun hHeld => ?_)
      clear hK K
      try simp only [Act.put, List.setIfInBounds_toArray, List.set_cons_zero, List.set_cons_succ]
      obtain ⟨⟨x0, x1, x2, x3, x4, x5, x6, x7, x8, x9⟩, ⟨u0, u1, u2, u3, u4, u5, u6, u7, u8, u9⟩⟩ := cv_readsZ HE3.out
      refine wpAnyH_ready (rs := [4]) (by kernel_rfl) (by simp) ?_
      refine AllReadyH.cons rfl (fun K hK => ?_) AllReadyH.nil
      go_simp
      have hq := cv_stored ((.int .i64 b1.id)) ((.string (T b1.proto))) ((.int .i64 b1.role)) ((.int .i64 b1.phase)) ((.int .i64 b1.step)) (((.slice sb nb cb))) ((.string (T b1.own))) ((.string (T b1.peer))) ((.string (T b1.user))) ((.int .i64 b1.err)) HE3.out
      generalize World.setCell _ _ _ = W5 at *
      have HE4 := Lib.hid (grown_keep hq.2 HE2.out (by omega))
      have HE5 := Lib.hid hq.1
      have HEE := Lib.hid (RnE.grown HE.out hq.2 (by omega) (HFA.out.far _) (HFB.out.far _))
      clear hq HE HE2 HE3
      clear x0 x1 x2 x3 x4 x5 x6 x7 x8 x9 u0 u1 u2 u3 u4 u5 u6 u7 u8 u9
      refine hK.out _ _ (rx_s HEE.out.drew.ra HEE.out.drew.rb) (fun hHeld => ?_)
      clear hK K
      try simp only [Act.put, List.setIfInBounds_toArray, List.set_cons_zero, List.set_cons_succ]
      refine wpAnyH_takeD (i := 5) (d := 6) (v := ?e5) rfl rfl (by kernel_rfl) (by kernel_rfl) (by kernel_rfl) (fun _ _ _ h => h) (Or.inl ⟨by rfl, ?ye5⟩) (by assumption) ?re5
      case ye5 => (intro w hSw; (try dsimp only at hSw); go_simp <;> with_reducible rfl)
      try simp only [Act.put, List.setIfInBounds_toArray, List.set_cons_zero, List.set_cons_succ]
      refine wpAnyH_done (by kernel_rfl) ?_ _
      clear hHeld
      obtain ⟨⟨x0, x1, x2, x3, x4, x5, x6, x7, x8, x9⟩, _⟩ := cv_readsZ HE4.out
      obtain ⟨⟨y0, y1, y2, y3, y4, y5, y6, y7, y8, y9⟩, _⟩ := cv_readsZ HE5.out
      go_wp2_with fail
      exact bodyPost_ret (v := .tuple #[.agg #[.int .i64 a1.id, .string (T a1.proto), .int .i64 a1.role, .int .i64 a1.phase, .int .i64 a1.step, (.slice sa na ca), .string (T a1.own), .string (T a1.peer), .string (T a1.user), .int .i64 a1.err], .agg #[.int .i64 b1.id, .string (T b1.proto), .int .i64 b1.role, .int .i64 b1.phase, .int .i64 b1.step, (.slice sb nb cb), .string (T b1.own), .string (T b1.peer), .string (T b1.user), .int .i64 b1.err], .int .i64 16]) (by simp [results, Tryz.results16, go_sem, x0, x1, x2, x3, x4, x5, x6, x7, x8, x9, y0, y1, y2, y3, y4, y5, y6, y7, y8, y9]) rfl (by rw [HRE.out]; exact ⟨sa, na, ca, sb, nb, cb, rfl, by rw [← HI.out.ka]; exact HEE.out.drew.ta, by rw [← HI.out.kb]; exact HEE.out.drew.tb, HFA.out.ge, HFB.out.ge, HEE.out.drew.bl⟩)
    have hki : (k : Int) < 16 := by omega
    by_cases hA : a1.phase = 1 ∧ b1.phase = 2
    · have e1 : (a1.phase == 1) = true := by rw [hA.1]; rfl
      have e2 : (b1.phase == 2) = true := by rw [hA.2]; rfl
      have HIN := Lib.hid (show RnI (k + 1) la lb _ _ ∧ _ from ⟨HIR.out.1.roundA, Au.run_a hlt hA HIR.out.2⟩)
      clear hA HIR
      have HRD := Lib.hid (fun (W : World) (h : RnS w W a1 b1 (.slice sa na ca) (.slice sb nb cb)) => read_any a1 sa na ca W h.ta HI.out.fa (HI.out.sA hk) h.ki)
      have HRT := Lib.hid (Au.read_text HI.out.fa)
      go_upto_region 7 with fail
      go_cut [8] (fun s w' => s = .string (T (Au.read a1).2.1) ∧ ∃ s1 n1 c1, Hid (RnS w w' (Au.read a1).1 b1 (.slice s1 n1 c1) (.slice sb nb cb)) ∧ Hid (NB w s1))
      case first =>
        repeat (rename (∀ (a : Act) (w : World), Code.wp _ _ _ a w → _) => ax; clear ax)
        obtain ⟨⟨x0, x1, x2, x3, x4, x5, x6, x7, x8, x9⟩, ⟨u0, u1, u2, u3, u4, u5, u6, u7, u8, u9⟩⟩ := cv_readsZ (RnS.ra HS.out)
        go_wp2_with fail
        (with_reducible refine (HRD.out _ HS.out).mono ?_); rintro e w1 ⟨s1, n1, c1, rfl, hta, hab, hba⟩
        have HSA := Lib.hid (RnS.next HS.out hba)
        have HTA := Lib.hid (show Atts w1 (.slice s1 n1 c1) (Au.read a1).1.key from by rw [Au.read_key]; exact hta)
        have HFN := Lib.hid (show NB w s1 from fun q hq => by have := hab q hq; have := row_ltA HS.out.r3; omega)
        clear x0 x1 x2 x3 x4 x5 x6 x7 x8 x9 u0 u1 u2 u3 u4 u5 u6 u7 u8 u9
        obtain ⟨⟨x0, x1, x2, x3, x4, x5, x6, x7, x8, x9⟩, ⟨u0, u1, u2, u3, u4, u5, u6, u7, u8, u9⟩⟩ := cv_readsZ (RnS.ra HSA.out)
        clear hta hab hba
        go_wp2_with fail
        go_meet
        have hq := cv_stored ((.int .i64 (Au.read a1).1.id)) ((.string (T (Au.read a1).1.proto))) ((.int .i64 (Au.read a1).1.role)) ((.int .i64 (Au.read a1).1.phase)) ((.int .i64 (Au.read a1).1.step)) (((.slice s1 n1 c1))) ((.string (T (Au.read a1).1.own))) ((.string (T (Au.read a1).1.peer))) ((.string (T (Au.read a1).1.user))) ((.int .i64 (Au.read a1).1.err)) HSA.out.ra
        exact ⟨rfl, s1, n1, c1, Lib.hid (RnS.setA HSA.out hq.2 hq.1 HTA.out (HFN.out.far _) (HFB.out.far _)), HFN⟩
      case rest =>
      obtain ⟨rfl, s1, n1, c1, HS1, HFN⟩ := hcut
      have HWR := Lib.hid (fun (W : World) (h : RnS w W (Au.read a1).1 b1 (.slice s1 n1 c1) (.slice sb nb cb)) => write_any b1 (Au.read a1).2.1 sb nb cb W h.tb HI.out.fb (HI.out.sB hk) h.ki (by have := HRT.out; omega))
      obtain ⟨⟨x0, x1, x2, x3, x4, x5, x6, x7, x8, x9⟩, ⟨u0, u1, u2, u3, u4, u5, u6, u7, u8, u9⟩⟩ := cv_readsZ (RnS.rb HS1.out)
      go_wp2_with fail
      (with_reducible refine (HWR.out _ HS1.out).mono ?_); rintro e w2 ⟨s2, n2, c2, rfl, hta, hab, hba⟩
      have HSB := Lib.hid (RnS.next HS1.out hba)
      have HTB := Lib.hid (show Atts w2 (.slice s2 n2 c2) (Au.write b1 (Au.read a1).2.1).1.key from by rw [Au.write_key]; exact hta)
      have HFM := Lib.hid (show NB w s2 from fun q hq => by have := hab q hq; have := row_ltA HS1.out.r3; omega)
      clear x0 x1 x2 x3 x4 x5 x6 x7 x8 x9 u0 u1 u2 u3 u4 u5 u6 u7 u8 u9
      obtain ⟨⟨x0, x1, x2, x3, x4, x5, x6, x7, x8, x9⟩, ⟨u0, u1, u2, u3, u4, u5, u6, u7, u8, u9⟩⟩ := cv_readsZ (RnS.rb HSB.out)
      clear hta hab hba
      go_upto_region 12 with fail
      have hq := cv_stored ((.int .i64 (Au.write b1 (Au.read a1).2.1).1.id)) ((.string (T (Au.write b1 (Au.read a1).2.1).1.proto))) ((.int .i64 (Au.write b1 (Au.read a1).2.1).1.role)) ((.int .i64 (Au.write b1 (Au.read a1).2.1).1.phase)) ((.int .i64 (Au.write b1 (Au.read a1).2.1).1.step)) (((.slice s2 n2 c2))) ((.string (T (Au.write b1 (Au.read a1).2.1).1.own))) ((.string (T (Au.write b1 (Au.read a1).2.1).1.peer))) ((.string (T (Au.write b1 (Au.read a1).2.1).1.user))) ((.int .i64 (Au.write b1 (Au.read a1).2.1).1.err)) HSB.out.rb
      generalize World.setCell _ _ _ = W5 at *
      have HS5 := Lib.hid (RnS.setB HSB.out hq.2 hq.1 HTB.out (HFM.out.far _) (HFN.out.far _))
      clear hq
      clear x0 x1 x2 x3 x4 x5 x6 x7 x8 x9 u0 u1 u2 u3 u4 u5 u6 u7 u8 u9
      go_wp2_with fail
      go_roundw
      case rel => exact ⟨k + 1, _, _, s1, n1, c1, s2, n2, c2, by go_num, by omega, HS5, HFN, HFM, HIN⟩
      case measure => simp [intOf]; omega
    by_cases hB : b1.phase = 1 ∧ a1.phase = 2
    · have e1 : (a1.phase == 1) = false := by rw [hB.2]; rfl
      have e2 : (b1.phase == 1) = true := by rw [hB.1]; rfl
      have e3 : (a1.phase == 2) = true := by rw [hB.2]; rfl
      have HIN := Lib.hid (show RnI (k + 1) la lb _ _ ∧ _ from ⟨HIR.out.1.roundB, Au.run_b hlt hB HIR.out.2⟩)
      clear hA hB HIR
      have HRD := Lib.hid (fun (W : World) (h : RnS w W a1 b1 (.slice sa na ca) (.slice sb nb cb)) => read_any b1 sb nb cb W h.tb HI.out.fb (HI.out.sB hk) h.ki)
      have HRT := Lib.hid (Au.read_text HI.out.fb)
      go_upto_region 10 with fail
      go_cut [8] (fun s w' => s = .string (T (Au.read b1).2.1) ∧ ∃ s1 n1 c1, Hid (RnS w w' a1 (Au.read b1).1 (.slice sa na ca) (.slice s1 n1 c1)) ∧ Hid (NB w s1))
      case first =>
        repeat (rename (∀ (a : Act) (w : World), Code.wp _ _ _ a w → _) => ax; clear ax)
        obtain ⟨⟨x0, x1, x2, x3, x4, x5, x6, x7, x8, x9⟩, ⟨u0, u1, u2, u3, u4, u5, u6, u7, u8, u9⟩⟩ := cv_readsZ (RnS.rb HS.out)
        go_wp2_with fail
        (with_reducible refine (HRD.out _ HS.out).mono ?_); rintro e w1 ⟨s1, n1, c1, rfl, hta, hab, hba⟩
        have HSA := Lib.hid (RnS.next HS.out hba)
        have HTA := Lib.hid (show Atts w1 (.slice s1 n1 c1) (Au.read b1).1.key from by rw [Au.read_key]; exact hta)
        have HFN := Lib.hid (show NB w s1 from fun q hq => by have := hab q hq; have := row_ltA HS.out.r3; omega)
        clear x0 x1 x2 x3 x4 x5 x6 x7 x8 x9 u0 u1 u2 u3 u4 u5 u6 u7 u8 u9
        obtain ⟨⟨x0, x1, x2, x3, x4, x5, x6, x7, x8, x9⟩, ⟨u0, u1, u2, u3, u4, u5, u6, u7, u8, u9⟩⟩ := cv_readsZ (RnS.rb HSA.out)
        clear hta hab hba
        go_wp2_with fail
        go_meet
        have hq := cv_stored ((.int .i64 (Au.read b1).1.id)) ((.string (T (Au.read b1).1.proto))) ((.int .i64 (Au.read b1).1.role)) ((.int .i64 (Au.read b1).1.phase)) ((.int .i64 (Au.read b1).1.step)) (((.slice s1 n1 c1))) ((.string (T (Au.read b1).1.own))) ((.string (T (Au.read b1).1.peer))) ((.string (T (Au.read b1).1.user))) ((.int .i64 (Au.read b1).1.err)) HSA.out.rb
        exact ⟨rfl, s1, n1, c1, Lib.hid (RnS.setB HSA.out hq.2 hq.1 HTA.out (HFN.out.far _) (HFA.out.far _)), HFN⟩
      case rest =>
      obtain ⟨rfl, s1, n1, c1, HS1, HFN⟩ := hcut
      have HWR := Lib.hid (fun (W : World) (h : RnS w W a1 (Au.read b1).1 (.slice sa na ca) (.slice s1 n1 c1)) => write_any a1 (Au.read b1).2.1 sa na ca W h.ta HI.out.fa (HI.out.sA hk) h.ki (by have := HRT.out; omega))
      obtain ⟨⟨x0, x1, x2, x3, x4, x5, x6, x7, x8, x9⟩, ⟨u0, u1, u2, u3, u4, u5, u6, u7, u8, u9⟩⟩ := cv_readsZ (RnS.ra HS1.out)
      go_wp2_with fail
      (with_reducible refine (HWR.out _ HS1.out).mono ?_); rintro e w2 ⟨s2, n2, c2, rfl, hta, hab, hba⟩
      have HSB := Lib.hid (RnS.next HS1.out hba)
      have HTB := Lib.hid (show Atts w2 (.slice s2 n2 c2) (Au.write a1 (Au.read b1).2.1).1.key from by rw [Au.write_key]; exact hta)
      have HFM := Lib.hid (show NB w s2 from fun q hq => by have := hab q hq; have := row_ltA HS1.out.r3; omega)
      clear x0 x1 x2 x3 x4 x5 x6 x7 x8 x9 u0 u1 u2 u3 u4 u5 u6 u7 u8 u9
      obtain ⟨⟨x0, x1, x2, x3, x4, x5, x6, x7, x8, x9⟩, ⟨u0, u1, u2, u3, u4, u5, u6, u7, u8, u9⟩⟩ := cv_readsZ (RnS.ra HSB.out)
      clear hta hab hba
      go_upto_region 12 with fail
      have hq := cv_stored ((.int .i64 (Au.write a1 (Au.read b1).2.1).1.id)) ((.string (T (Au.write a1 (Au.read b1).2.1).1.proto))) ((.int .i64 (Au.write a1 (Au.read b1).2.1).1.role)) ((.int .i64 (Au.write a1 (Au.read b1).2.1).1.phase)) ((.int .i64 (Au.write a1 (Au.read b1).2.1).1.step)) (((.slice s2 n2 c2))) ((.string (T (Au.write a1 (Au.read b1).2.1).1.own))) ((.string (T (Au.write a1 (Au.read b1).2.1).1.peer))) ((.string (T (Au.write a1 (Au.read b1).2.1).1.user))) ((.int .i64 (Au.write a1 (Au.read b1).2.1).1.err)) HSB.out.ra
      generalize World.setCell _ _ _ = W5 at *
      have HS5 := Lib.hid (RnS.setA HSB.out hq.2 hq.1 HTB.out (HFM.out.far _) (HFN.out.far _))
      clear hq
      clear x0 x1 x2 x3 x4 x5 x6 x7 x8 x9 u0 u1 u2 u3 u4 u5 u6 u7 u8 u9
      go_wp2_with fail
      go_roundw
      case rel => exact ⟨k + 1, _, _, s2, n2, c2, s1, n1, c1, by go_num, by omega, HS5, HFM, HFN, HIN⟩
      case measure => simp [intOf]; omega
    have HRE := Lib.hid (Au.run_end (.inr ⟨hA, hB⟩) HIR.out.2)
    clear HIR
    by_cases h1 : a1.phase = 1
    · have e1 : (a1.phase == 1) = true := by rw [h1]; rfl
      have e2 : (b1.phase == 2) = false := by rw [beq_eq_false_iff_ne]; exact fun e => hA ⟨h1, e⟩
      by_cases h2 : b1.phase = 1
      · have e3 : (b1.phase == 1) = true := by rw [h2]; rfl
        have e4 : (a1.phase == 2) = false := by rw [h1]; rfl
        clear hA hB h1 h2
        go_upto_region 5 with fail
        have HSW := Lib.hid (RnS.next HS.out (below_drew1 (Below.refl _ _)))
        refine wp_region_held_drew (S := (fun W' => RxS W' w.heap.size (w.heap.size + 1) a1 b1 (.slice sa na ca) (.slice sb nb cb))) (by kernel_rfl) (rx_s HSW.out.ra HSW.out.rb) (fun hHeld => ?_)
        refine wpAnyH_takeD (i := 0) (d := 15) (v := ?f0) rfl rfl (by kernel_rfl) (by kernel_rfl) (by kernel_rfl) (fun _ _ _ h => h) (Or.inl ⟨by rfl, ?yf0⟩) (by assumption) ?rf0
        case yf0 => (intro w hSw; (try dsimp only at hSw); go_simp <;> with_reducible rfl)
        try simp only [Act.put, List.setIfInBounds_toArray, List.set_cons_zero, List.set_cons_succ]
        refine wpAnyH_takeD (i := 1) (d := 16) (v := ?f1) rfl rfl (by kernel_rfl) (by kernel_rfl) (by kernel_rfl) (fun _ _ _ h => h) (Or.inl ⟨by rfl, ?yf1⟩) (by assumption) ?rf1
        case yf1 => (intro w hSw; (try dsimp only at hSw); go_simp <;> with_reducible rfl)
        try simp only [Act.put, List.setIfInBounds_toArray, List.set_cons_zero, List.set_cons_succ]
        refine wpAnyH_takeD (i := 2) (d := 17) (v := ?f2) rfl rfl (by kernel_rfl) (by kernel_rfl) (by kernel_rfl) (fun _ _ _ h => h) (Or.inl ⟨by rfl, ?yf2⟩) (by assumption) ?rf2
        case yf2 => (intro w hSw; (try dsimp only at hSw); go_simp <;> with_reducible rfl)
        try simp only [Act.put, List.setIfInBounds_toArray, List.set_cons_zero, List.set_cons_succ]
        obtain ⟨⟨x0, x1, x2, x3, x4, x5, x6, x7, x8, x9⟩, ⟨u0, u1, u2, u3, u4, u5, u6, u7, u8, u9⟩⟩ := cv_readsZ (RnS.r2 HS.out)
        refine wpAnyH_ready (rs := [3]) (by kernel_rfl) (by simp) ?_
        refine AllReadyH.cons rfl (fun K hK => ?_) AllReadyH.nil
        go_simp
        have hq := cv_stored ((.int .i64 a1.id)) ((.string (T a1.proto))) ((.int .i64 a1.role)) ((.int .i64 a1.phase)) ((.int .i64 a1.step)) (((.slice sa na ca))) ((.string (T a1.own))) ((.string (T a1.peer))) ((.string (T a1.user))) ((.int .i64 a1.err)) HS.out.r2
        generalize World.setCell _ _ _ = W4 at *
        have HE2 := Lib.hid hq.1
        have HE3 := Lib.hid (grown_keep hq.2 HS.out.r3 (by omega))
        have HE := Lib.hid (RnE.grown HS.out.e hq.2 (by omega) (HFA.out.far _) (HFB.out.far _))
        clear hq HSW
        clear x0 x1 x2 x3 x4 x5 x6 x7 x8 x9 u0 u1 u2 u3 u4 u5 u6 u7 u8 u9
        refine hK.out _ _ (rx_s HE.out.drew.ra HE.out.drew.rb) (fun hHeld => ?_)
        clear hK K
        try simp only [Act.put, List.setIfInBounds_toArray, List.set_cons_zero, List.set_cons_succ]
        obtain ⟨⟨x0, x1, x2, x3, x4, x5, x6, x7, x8, x9⟩, ⟨u0, u1, u2, u3, u4, u5, u6, u7, u8, u9⟩⟩ := cv_readsZ HE3.out
        refine wpAnyH_ready (rs := [4]) (by kernel_rfl) (by simp) ?_
        refine AllReadyH.cons rfl (fun K hK => ?_) AllReadyH.nil
        go_simp
        have hq := cv_stored ((.int .i64 b1.id)) ((.string (T b1.proto))) ((.int .i64 b1.role)) ((.int .i64 b1.phase)) ((.int .i64 b1.step)) (((.slice sb nb cb))) ((.string (T b1.own))) ((.string (T b1.peer))) ((.string (T b1.user))) ((.int .i64 b1.err)) HE3.out
        generalize World.setCell _ _ _ = W5 at *
        have HE4 := Lib.hid (grown_keep hq.2 HE2.out (by omega))
        have HE5 := Lib.hid hq.1
        have HEE := Lib.hid (RnE.grown HE.out hq.2 (by omega) (HFA.out.far _) (HFB.out.far _))
        clear hq HE HE2 HE3
        clear x0 x1 x2 x3 x4 x5 x6 x7 x8 x9 u0 u1 u2 u3 u4 u5 u6 u7 u8 u9
        refine hK.out _ _ (rx_s HEE.out.drew.ra HEE.out.drew.rb) (fun hHeld => ?_)
        clear hK K
        try simp only [Act.put, List.setIfInBounds_toArray, List.set_cons_zero, List.set_cons_succ]
        refine wpAnyH_takeD (i := 5) (d := 6) (v := ?f5) rfl rfl (by kernel_rfl) (by kernel_rfl) (by kernel_rfl) (fun _ _ _ h => h) (Or.inl ⟨by rfl, ?yf5⟩) (by assumption) ?rf5
        case yf5 => (intro w hSw; (try dsimp only at hSw); go_simp <;> with_reducible rfl)
        try simp only [Act.put, List.setIfInBounds_toArray, List.set_cons_zero, List.set_cons_succ]
        refine wpAnyH_done (by kernel_rfl) ?_ _
        clear hHeld
        obtain ⟨⟨x0, x1, x2, x3, x4, x5, x6, x7, x8, x9⟩, _⟩ := cv_readsZ HE4.out
        obtain ⟨⟨y0, y1, y2, y3, y4, y5, y6, y7, y8, y9⟩, _⟩ := cv_readsZ HE5.out
        go_wp2_with fail
        exact bodyPost_ret (v := .tuple #[.agg #[.int .i64 a1.id, .string (T a1.proto), .int .i64 a1.role, .int .i64 a1.phase, .int .i64 a1.step, (.slice sa na ca), .string (T a1.own), .string (T a1.peer), .string (T a1.user), .int .i64 a1.err], .agg #[.int .i64 b1.id, .string (T b1.proto), .int .i64 b1.role, .int .i64 b1.phase, .int .i64 b1.step, (.slice sb nb cb), .string (T b1.own), .string (T b1.peer), .string (T b1.user), .int .i64 b1.err], .int .i64 (k : Int)]) (by simp [results, Tryz.results16, go_sem, x0, x1, x2, x3, x4, x5, x6, x7, x8, x9, y0, y1, y2, y3, y4, y5, y6, y7, y8, y9]) rfl (by rw [HRE.out]; exact ⟨sa, na, ca, sb, nb, cb, rfl, by rw [← HI.out.ka]; exact HEE.out.drew.ta, by rw [← HI.out.kb]; exact HEE.out.drew.tb, HFA.out.ge, HFB.out.ge, HEE.out.drew.bl⟩)
      · have e3 : (b1.phase == 1) = false := by rw [beq_eq_false_iff_ne]; exact h2
        clear hA hB h1 h2
        go_upto_region 5 with fail
        have HSW := Lib.hid (RnS.next HS.out (below_drew1 (Below.refl _ _)))
        refine wp_region_held_drew (S := (fun W' => RxS W' w.heap.size (w.heap.size + 1) a1 b1 (.slice sa na ca) (.slice sb nb cb))) (by kernel_rfl) (rx_s HSW.out.ra HSW.out.rb) (fun hHeld => ?_)
        refine wpAnyH_takeD (i := 0) (d := 15) (v := ?g0) rfl rfl (by kernel_rfl) (by kernel_rfl) (by kernel_rfl) (fun _ _ _ h => h) (Or.inl ⟨by rfl, ?yg0⟩) (by assumption) ?rg0
        case yg0 => (intro w hSw; (try dsimp only at hSw); go_simp <;> with_reducible rfl)
        try simp only [Act.put, List.setIfInBounds_toArray, List.set_cons_zero, List.set_cons_succ]
        refine wpAnyH_takeD (i := 1) (d := 16) (v := ?g1) rfl rfl (by kernel_rfl) (by kernel_rfl) (by kernel_rfl) (fun _ _ _ h => h) (Or.inl ⟨by rfl, ?yg1⟩) (by assumption) ?rg1
        case yg1 => (intro w hSw; (try dsimp only at hSw); go_simp <;> with_reducible rfl)
        try simp only [Act.put, List.setIfInBounds_toArray, List.set_cons_zero, List.set_cons_succ]
        refine wpAnyH_takeD (i := 2) (d := 17) (v := ?g2) rfl rfl (by kernel_rfl) (by kernel_rfl) (by kernel_rfl) (fun _ _ _ h => h) (Or.inl ⟨by rfl, ?yg2⟩) (by assumption) ?rg2
        case yg2 => (intro w hSw; (try dsimp only at hSw); go_simp <;> with_reducible rfl)
        try simp only [Act.put, List.setIfInBounds_toArray, List.set_cons_zero, List.set_cons_succ]
        obtain ⟨⟨x0, x1, x2, x3, x4, x5, x6, x7, x8, x9⟩, ⟨u0, u1, u2, u3, u4, u5, u6, u7, u8, u9⟩⟩ := cv_readsZ (RnS.r2 HS.out)
        refine wpAnyH_ready (rs := [3]) (by kernel_rfl) (by simp) ?_
        refine AllReadyH.cons rfl (fun K hK => ?_) AllReadyH.nil
        go_simp
        have hq := cv_stored ((.int .i64 a1.id)) ((.string (T a1.proto))) ((.int .i64 a1.role)) ((.int .i64 a1.phase)) ((.int .i64 a1.step)) (((.slice sa na ca))) ((.string (T a1.own))) ((.string (T a1.peer))) ((.string (T a1.user))) ((.int .i64 a1.err)) HS.out.r2
        generalize World.setCell _ _ _ = W4 at *
        have HE2 := Lib.hid hq.1
        have HE3 := Lib.hid (grown_keep hq.2 HS.out.r3 (by omega))
        have HE := Lib.hid (RnE.grown HS.out.e hq.2 (by omega) (HFA.out.far _) (HFB.out.far _))
        clear hq HSW
        clear x0 x1 x2 x3 x4 x5 x6 x7 x8 x9 u0 u1 u2 u3 u4 u5 u6 u7 u8 u9
        refine hK.out _ _ (rx_s HE.out.drew.ra HE.out.drew.rb) (fun hHeld => ?_)
        clear hK K
        try simp only [Act.put, List.setIfInBounds_toArray, List.set_cons_zero, List.set_cons_succ]
        obtain ⟨⟨x0, x1, x2, x3, x4, x5, x6, x7, x8, x9⟩, ⟨u0, u1, u2, u3, u4, u5, u6, u7, u8, u9⟩⟩ := cv_readsZ HE3.out
        refine wpAnyH_ready (rs := [4]) (by kernel_rfl) (by simp) ?_
        refine AllReadyH.cons rfl (fun K hK => ?_) AllReadyH.nil
        go_simp
        have hq := cv_stored ((.int .i64 b1.id)) ((.string (T b1.proto))) ((.int .i64 b1.role)) ((.int .i64 b1.phase)) ((.int .i64 b1.step)) (((.slice sb nb cb))) ((.string (T b1.own))) ((.string (T b1.peer))) ((.string (T b1.user))) ((.int .i64 b1.err)) HE3.out
        generalize World.setCell _ _ _ = W5 at *
        have HE4 := Lib.hid (grown_keep hq.2 HE2.out (by omega))
        have HE5 := Lib.hid hq.1
        have HEE := Lib.hid (RnE.grown HE.out hq.2 (by omega) (HFA.out.far _) (HFB.out.far _))
        clear hq HE HE2 HE3
        clear x0 x1 x2 x3 x4 x5 x6 x7 x8 x9 u0 u1 u2 u3 u4 u5 u6 u7 u8 u9
        refine hK.out _ _ (rx_s HEE.out.drew.ra HEE.out.drew.rb) (fun hHeld => ?_)
        clear hK K
        try simp only [Act.put, List.setIfInBounds_toArray, List.set_cons_zero, List.set_cons_succ]
        refine wpAnyH_takeD (i := 5) (d := 6) (v := ?g5) rfl rfl (by kernel_rfl) (by kernel_rfl) (by kernel_rfl) (fun _ _ _ h => h) (Or.inl ⟨by rfl, ?yg5⟩) (by assumption) ?rg5
        case yg5 => (intro w hSw; (try dsimp only at hSw); go_simp <;> with_reducible rfl)
        try simp only [Act.put, List.setIfInBounds_toArray, List.set_cons_zero, List.set_cons_succ]
        refine wpAnyH_done (by kernel_rfl) ?_ _
        clear hHeld
        obtain ⟨⟨x0, x1, x2, x3, x4, x5, x6, x7, x8, x9⟩, _⟩ := cv_readsZ HE4.out
        obtain ⟨⟨y0, y1, y2, y3, y4, y5, y6, y7, y8, y9⟩, _⟩ := cv_readsZ HE5.out
        go_wp2_with fail
        exact bodyPost_ret (v := .tuple #[.agg #[.int .i64 a1.id, .string (T a1.proto), .int .i64 a1.role, .int .i64 a1.phase, .int .i64 a1.step, (.slice sa na ca), .string (T a1.own), .string (T a1.peer), .string (T a1.user), .int .i64 a1.err], .agg #[.int .i64 b1.id, .string (T b1.proto), .int .i64 b1.role, .int .i64 b1.phase, .int .i64 b1.step, (.slice sb nb cb), .string (T b1.own), .string (T b1.peer), .string (T b1.user), .int .i64 b1.err], .int .i64 (k : Int)]) (by simp [results, Tryz.results16, go_sem, x0, x1, x2, x3, x4, x5, x6, x7, x8, x9, y0, y1, y2, y3, y4, y5, y6, y7, y8, y9]) rfl (by rw [HRE.out]; exact ⟨sa, na, ca, sb, nb, cb, rfl, by rw [← HI.out.ka]; exact HEE.out.drew.ta, by rw [← HI.out.kb]; exact HEE.out.drew.tb, HFA.out.ge, HFB.out.ge, HEE.out.drew.bl⟩)
    · have e1 : (a1.phase == 1) = false := by rw [beq_eq_false_iff_ne]; exact h1
      by_cases h2 : b1.phase = 1
      · have e3 : (b1.phase == 1) = true := by rw [h2]; rfl
        have e4 : (a1.phase == 2) = false := by rw [beq_eq_false_iff_ne]; exact fun e => hB ⟨h2, e⟩
        clear hA hB h1 h2
        go_upto_region 5 with fail
        have HSW := Lib.hid (RnS.next HS.out (below_drew1 (Below.refl _ _)))
        refine wp_region_held_drew (S := (fun W' => RxS W' w.heap.size (w.heap.size + 1) a1 b1 (.slice sa na ca) (.slice sb nb cb))) (by kernel_rfl) (rx_s HSW.out.ra HSW.out.rb) (fun hHeld => ?_)
        refine wpAnyH_takeD (i := 0) (d := 15) (v := ?h0) rfl rfl (by kernel_rfl) (by kernel_rfl) (by kernel_rfl) (fun _ _ _ h => h) (Or.inl ⟨by rfl, ?yh0⟩) (by assumption) ?rh0
        case yh0 => (intro w hSw; (try dsimp only at hSw); go_simp <;> with_reducible rfl)
        try simp only [Act.put, List.setIfInBounds_toArray, List.set_cons_zero, List.set_cons_succ]
        refine wpAnyH_takeD (i := 1) (d := 16) (v := ?h1) rfl rfl (by kernel_rfl) (by kernel_rfl) (by kernel_rfl) (fun _ _ _ h => h) (Or.inl ⟨by rfl, ?yh1⟩) (by assumption) ?rh1
        case yh1 => (intro w hSw; (try dsimp only at hSw); go_simp <;> with_reducible rfl)
        try simp only [Act.put, List.setIfInBounds_toArray, List.set_cons_zero, List.set_cons_succ]
        refine wpAnyH_takeD (i := 2) (d := 17) (v := ?h2) rfl rfl (by kernel_rfl) (by kernel_rfl) (by kernel_rfl) (fun _ _ _ h => h) (Or.inl ⟨by rfl, ?yh2⟩) (by assumption) ?rh2
        case yh2 => (intro w hSw; (try dsimp only at hSw); go_simp <;> with_reducible rfl)
        try simp only [Act.put, List.setIfInBounds_toArray, List.set_cons_zero, List.set_cons_succ]
        obtain ⟨⟨x0, x1, x2, x3, x4, x5, x6, x7, x8, x9⟩, ⟨u0, u1, u2, u3, u4, u5, u6, u7, u8, u9⟩⟩ := cv_readsZ (RnS.r2 HS.out)
        refine wpAnyH_ready (rs := [3]) (by kernel_rfl) (by simp) ?_
        refine AllReadyH.cons rfl (fun K hK => ?_) AllReadyH.nil
        go_simp
        have hq := cv_stored ((.int .i64 a1.id)) ((.string (T a1.proto))) ((.int .i64 a1.role)) ((.int .i64 a1.phase)) ((.int .i64 a1.step)) (((.slice sa na ca))) ((.string (T a1.own))) ((.string (T a1.peer))) ((.string (T a1.user))) ((.int .i64 a1.err)) HS.out.r2
        generalize World.setCell _ _ _ = W4 at *
        have HE2 := Lib.hid hq.1
        have HE3 := Lib.hid (grown_keep hq.2 HS.out.r3 (by omega))
        have HE := Lib.hid (RnE.grown HS.out.e hq.2 (by omega) (HFA.out.far _) (HFB.out.far _))
        clear hq HSW
        clear x0 x1 x2 x3 x4 x5 x6 x7 x8 x9 u0 u1 u2 u3 u4 u5 u6 u7 u8 u9
        refine hK.out _ _ (rx_s HE.out.drew.ra HE.out.drew.rb) (fun hHeld => ?_)
        clear hK K
        try simp only [Act.put, List.setIfInBounds_toArray, List.set_cons_zero, List.set_cons_succ]
        obtain ⟨⟨x0, x1, x2, x3, x4, x5, x6, x7, x8, x9⟩, ⟨u0, u1, u2, u3, u4, u5, u6, u7, u8, u9⟩⟩ := cv_readsZ HE3.out
        refine wpAnyH_ready (rs := [4]) (by kernel_rfl) (by simp) ?_
        refine AllReadyH.cons rfl (fun K hK => ?_) AllReadyH.nil
        go_simp
        have hq := cv_stored ((.int .i64 b1.id)) ((.string (T b1.proto))) ((.int .i64 b1.role)) ((.int .i64 b1.phase)) ((.int .i64 b1.step)) (((.slice sb nb cb))) ((.string (T b1.own))) ((.string (T b1.peer))) ((.string (T b1.user))) ((.int .i64 b1.err)) HE3.out
        generalize World.setCell _ _ _ = W5 at *
        have HE4 := Lib.hid (grown_keep hq.2 HE2.out (by omega))
        have HE5 := Lib.hid hq.1
        have HEE := Lib.hid (RnE.grown HE.out hq.2 (by omega) (HFA.out.far _) (HFB.out.far _))
        clear hq HE HE2 HE3
        clear x0 x1 x2 x3 x4 x5 x6 x7 x8 x9 u0 u1 u2 u3 u4 u5 u6 u7 u8 u9
        refine hK.out _ _ (rx_s HEE.out.drew.ra HEE.out.drew.rb) (fun hHeld => ?_)
        clear hK K
        try simp only [Act.put, List.setIfInBounds_toArray, List.set_cons_zero, List.set_cons_succ]
        refine wpAnyH_takeD (i := 5) (d := 6) (v := ?h5) rfl rfl (by kernel_rfl) (by kernel_rfl) (by kernel_rfl) (fun _ _ _ h => h) (Or.inl ⟨by rfl, ?yh5⟩) (by assumption) ?rh5
        case yh5 => (intro w hSw; (try dsimp only at hSw); go_simp <;> with_reducible rfl)
        try simp only [Act.put, List.setIfInBounds_toArray, List.set_cons_zero, List.set_cons_succ]
        refine wpAnyH_done (by kernel_rfl) ?_ _
        clear hHeld
        obtain ⟨⟨x0, x1, x2, x3, x4, x5, x6, x7, x8, x9⟩, _⟩ := cv_readsZ HE4.out
        obtain ⟨⟨y0, y1, y2, y3, y4, y5, y6, y7, y8, y9⟩, _⟩ := cv_readsZ HE5.out
        go_wp2_with fail
        exact bodyPost_ret (v := .tuple #[.agg #[.int .i64 a1.id, .string (T a1.proto), .int .i64 a1.role, .int .i64 a1.phase, .int .i64 a1.step, (.slice sa na ca), .string (T a1.own), .string (T a1.peer), .string (T a1.user), .int .i64 a1.err], .agg #[.int .i64 b1.id, .string (T b1.proto), .int .i64 b1.role, .int .i64 b1.phase, .int .i64 b1.step, (.slice sb nb cb), .string (T b1.own), .string (T b1.peer), .string (T b1.user), .int .i64 b1.err], .int .i64 (k : Int)]) (by simp [results, Tryz.results16, go_sem, x0, x1, x2, x3, x4, x5, x6, x7, x8, x9, y0, y1, y2, y3, y4, y5, y6, y7, y8, y9]) rfl (by rw [HRE.out]; exact ⟨sa, na, ca, sb, nb, cb, rfl, by rw [← HI.out.ka]; exact HEE.out.drew.ta, by rw [← HI.out.kb]; exact HEE.out.drew.tb, HFA.out.ge, HFB.out.ge, HEE.out.drew.bl⟩)
      · have e3 : (b1.phase == 1) = false := by rw [beq_eq_false_iff_ne]; exact h2
        clear hA hB h1 h2
        go_upto_region 5 with fail
        have HSW := Lib.hid (RnS.next HS.out (below_drew1 (Below.refl _ _)))
        refine wp_region_held_drew (S := (fun W' => RxS W' w.heap.size (w.heap.size + 1) a1 b1 (.slice sa na ca) (.slice sb nb cb))) (by kernel_rfl) (rx_s HSW.out.ra HSW.out.rb) (fun hHeld => ?_)
        refine wpAnyH_takeD (i := 0) (d := 15) (v := ?i0) rfl rfl (by kernel_rfl) (by kernel_rfl) (by kernel_rfl) (fun _ _ _ h => h) (Or.inl ⟨by rfl, ?yi0⟩) (by assumption) ?ri0
        case yi0 => (intro w hSw; (try dsimp only at hSw); go_simp <;> with_reducible rfl)
        try simp only [Act.put, List.setIfInBounds_toArray, List.set_cons_zero, List.set_cons_succ]
        refine wpAnyH_takeD (i := 1) (d := 16) (v := ?i1) rfl rfl (by kernel_rfl) (by kernel_rfl) (by kernel_rfl) (fun _ _ _ h => h) (Or.inl ⟨by rfl, ?yi1⟩) (by assumption) ?ri1
        case yi1 => (intro w hSw; (try dsimp only at hSw); go_simp <;> with_reducible rfl)
        try simp only [Act.put, List.setIfInBounds_toArray, List.set_cons_zero, List.set_cons_succ]
        refine wpAnyH_takeD (i := 2) (d := 17) (v := ?i2) rfl rfl (by kernel_rfl) (by kernel_rfl) (by kernel_rfl) (fun _ _ _ h => h) (Or.inl ⟨by rfl, ?yi2⟩) (by assumption) ?ri2
        case yi2 => (intro w hSw; (try dsimp only at hSw); go_simp <;> with_reducible rfl)
        try simp only [Act.put, List.setIfInBounds_toArray, List.set_cons_zero, List.set_cons_succ]
        obtain ⟨⟨x0, x1, x2, x3, x4, x5, x6, x7, x8, x9⟩, ⟨u0, u1, u2, u3, u4, u5, u6, u7, u8, u9⟩⟩ := cv_readsZ (RnS.r2 HS.out)
        refine wpAnyH_ready (rs := [3]) (by kernel_rfl) (by simp) ?_
        refine AllReadyH.cons rfl (fun K hK => ?_) AllReadyH.nil
        go_simp
        have hq := cv_stored ((.int .i64 a1.id)) ((.string (T a1.proto))) ((.int .i64 a1.role)) ((.int .i64 a1.phase)) ((.int .i64 a1.step)) (((.slice sa na ca))) ((.string (T a1.own))) ((.string (T a1.peer))) ((.string (T a1.user))) ((.int .i64 a1.err)) HS.out.r2
        generalize World.setCell _ _ _ = W4 at *
        have HE2 := Lib.hid hq.1
        have HE3 := Lib.hid (grown_keep hq.2 HS.out.r3 (by omega))
        have HE := Lib.hid (RnE.grown HS.out.e hq.2 (by omega) (HFA.out.far _) (HFB.out.far _))
        clear hq HSW
        clear x0 x1 x2 x3 x4 x5 x6 x7 x8 x9 u0 u1 u2 u3 u4 u5 u6 u7 u8 u9
        refine hK.out _ _ (rx_s HE.out.drew.ra HE.out.drew.rb) (fun hHeld => ?_)
        clear hK K
        try simp only [Act.put, List.setIfInBounds_toArray, List.set_cons_zero, List.set_cons_succ]
        obtain ⟨⟨x0, x1, x2, x3, x4, x5, x6, x7, x8, x9⟩, ⟨u0, u1, u2, u3, u4, u5, u6, u7, u8, u9⟩⟩ := cv_readsZ HE3.out
        refine wpAnyH_ready (rs := [4]) (by kernel_rfl) (by simp) ?_
        refine AllReadyH.cons rfl (fun K hK => ?_) AllReadyH.nil
        go_simp
        have hq := cv_stored ((.int .i64 b1.id)) ((.string (T b1.proto))) ((.int .i64 b1.role)) ((.int .i64 b1.phase)) ((.int .i64 b1.step)) (((.slice sb nb cb))) ((.string (T b1.own))) ((.string (T b1.peer))) ((.string (T b1.user))) ((.int .i64 b1.err)) HE3.out
        generalize World.setCell _ _ _ = W5 at *
        have HE4 := Lib.hid (grown_keep hq.2 HE2.out (by omega))
        have HE5 := Lib.hid hq.1
        have HEE := Lib.hid (RnE.grown HE.out hq.2 (by omega) (HFA.out.far _) (HFB.out.far _))
        clear hq HE HE2 HE3
        clear x0 x1 x2 x3 x4 x5 x6 x7 x8 x9 u0 u1 u2 u3 u4 u5 u6 u7 u8 u9
        refine hK.out _ _ (rx_s HEE.out.drew.ra HEE.out.drew.rb) (fun hHeld => ?_)
        clear hK K
        try simp only [Act.put, List.setIfInBounds_toArray, List.set_cons_zero, List.set_cons_succ]
        refine wpAnyH_takeD (i := 5) (d := 6) (v := ?i5) rfl rfl (by kernel_rfl) (by kernel_rfl) (by kernel_rfl) (fun _ _ _ h => h) (Or.inl ⟨by rfl, ?yi5⟩) (by assumption) ?ri5
        case yi5 => (intro w hSw; (try dsimp only at hSw); go_simp <;> with_reducible rfl)
        try simp only [Act.put, List.setIfInBounds_toArray, List.set_cons_zero, List.set_cons_succ]
        refine wpAnyH_done (by kernel_rfl) ?_ _
        clear hHeld
        obtain ⟨⟨x0, x1, x2, x3, x4, x5, x6, x7, x8, x9⟩, _⟩ := cv_readsZ HE4.out
        obtain ⟨⟨y0, y1, y2, y3, y4, y5, y6, y7, y8, y9⟩, _⟩ := cv_readsZ HE5.out
        go_wp2_with fail
        exact bodyPost_ret (v := .tuple #[.agg #[.int .i64 a1.id, .string (T a1.proto), .int .i64 a1.role, .int .i64 a1.phase, .int .i64 a1.step, (.slice sa na ca), .string (T a1.own), .string (T a1.peer), .string (T a1.user), .int .i64 a1.err], .agg #[.int .i64 b1.id, .string (T b1.proto), .int .i64 b1.role, .int .i64 b1.phase, .int .i64 b1.step, (.slice sb nb cb), .string (T b1.own), .string (T b1.peer), .string (T b1.user), .int .i64 b1.err], .int .i64 (k : Int)]) (by simp [results, Tryz.results16, go_sem, x0, x1, x2, x3, x4, x5, x6, x7, x8, x9, y0, y1, y2, y3, y4, y5, y6, y7, y8, y9]) rfl (by rw [HRE.out]; exact ⟨sa, na, ca, sb, nb, cb, rfl, by rw [← HI.out.ka]; exact HEE.out.drew.ta, by rw [← HI.out.kb]; exact HEE.out.drew.tb, HFA.out.ge, HFB.out.ge, HEE.out.drew.bl⟩)
end Go.Proofs.YtjjdaelddicokaaGreatDoor
