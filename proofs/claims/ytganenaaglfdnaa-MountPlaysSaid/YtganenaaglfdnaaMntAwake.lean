/- The examples of the chapter: awake returns true. Conditions: none. -/
import Derived.Test.YtganenaaglfdnaaMntSmall
import Derived.Test.YtganenaaglfdnaaMntAdd
import Derived.Test.YtganenaaglfdnaaMntPSame
import Derived.Test.YtganenaaglfdnaaMntPlain
import Derived.Deep.CutBlock
set_option linter.unusedVariables false
set_option linter.unusedSimpArgs false
namespace Go.Proofs.Ytganenaaglfdnaa
open Go.RowKit
namespace Ns
def am1 : List Mnt := [⟨at_ 5, [⟨at_ 5, false⟩, ⟨at_ 6, false⟩]⟩]
def am2 : List Mnt := [⟨at_ 5, [⟨at_ 7, true⟩, ⟨at_ 5, false⟩, ⟨at_ 6, false⟩]⟩]
def amp : List Mnt := [⟨at_ 5, [⟨at_ 7, true⟩, ⟨at_ 6, false⟩]⟩]
theorem am1_right : right 3 (at_ 1) am1 = true := right_yes (by
  have h := right_call (id := 3) (r := at_ 1) (ms := []) ⟨by decide, by decide, by decide, by decide, fun i h => by simp at h⟩ 1 (at_ 5) (at_ 6) 2
  rw [show call 1 [] (at_ 5) (at_ 6) 2 = (am1, 0) from by decide] at h
  exact h)
end Ns
/-- The channel of the examples as a value. -/
def cv (k : Int) : Value := .agg #[.int .i64 0, .int .i64 k, .int .i64 0, .string ⟨#[]⟩, .string ⟨#[47, 120]⟩]
theorem carry_new {V W' : World} {o : Obj} (b : Below (V.alloc o).heap.size (V.alloc o) W') : W'.heap[V.heap.size]? = some o := (b.block _ (row_lt (heap_alloc_new V o))).trans (heap_alloc_new V o)
theorem carry_drew {V W' : World} {o : Obj} (b : Below (V.alloc o).drew.heap.size (V.alloc o).drew W') : W'.heap[V.heap.size]? = some o := (b.block _ (row_lt (heap_alloc_new V o))).trans (heap_alloc_new V o)
theorem carry_lt {V W' : World} {o : Obj} (b : Below (V.alloc o).heap.size (V.alloc o) W') : V.heap.size < (V.alloc o).heap.size := row_lt (heap_alloc_new V o)
theorem carry_ltd {V W' : World} {o : Obj} (b : Below (V.alloc o).drew.heap.size (V.alloc o).drew W') : V.heap.size < (V.alloc o).heap.size := row_lt (heap_alloc_new V o)
theorem drew_alloc_new (W : World) (o : Obj) : (W.alloc o).drew.heap[W.heap.size]? = some o := heap_alloc_new W o
/-- The cells of a name space's box, in a world behind W0. -/
abbrev AwS (W0 W : World) (g : Nat) (v : Value) : Prop :=
  W.cell? ⟨g, 0, none⟩ = some (.int .i64 3) ∧ W.cell? ⟨g, 1, none⟩ = some (.int .i64 0) ∧ W.cell? ⟨g, 2, none⟩ = some (.int .i64 1) ∧ W.cell? ⟨g, 3, none⟩ = some (.int .i64 0) ∧ W.cell? ⟨g, 4, none⟩ = some (.string ⟨#[]⟩) ∧ W.cell? ⟨g, 5, none⟩ = some (.string ⟨#[47, 120]⟩) ∧ (W.cell? ⟨g, 6, none⟩ = some v ∧ g < W0.heap.size) ∧ Below W0.heap.size W0 W
theorem aw_s {W0 W : World} {g : Nat} {v : Value} (h : W0.heap[g]? = some (.cells #[.int .i64 3, .int .i64 0, .int .i64 1, .int .i64 0, .string ⟨#[]⟩, .string ⟨#[47, 120]⟩, v] 26 (0, 0))) (hb : Below W0.heap.size W0 W) : AwS W0 W g v := by
  obtain ⟨⟨h0, h1, h2, h3, h4, h5, h6⟩, _⟩ := ns_reads ((hb.block _ (row_lt h)).trans h)
  exact ⟨h0, h1, h2, h3, h4, h5, ⟨h6, row_lt h⟩, hb⟩
theorem AwS.next {W0 W W' : World} {g : Nat} {v : Value} (h : AwS W0 W g v) (hb : Below W.heap.size W W') : AwS W0 W' g v := by
  obtain ⟨h0, h1, h2, h3, h4, h5, ⟨h6, hl⟩, h7⟩ := h
  have hc := (bcell hb).1
  have hs := h7.size
  exact ⟨by rw [hc _ _ (by omega)]; exact h0, by rw [hc _ _ (by omega)]; exact h1, by rw [hc _ _ (by omega)]; exact h2, by rw [hc _ _ (by omega)]; exact h3, by rw [hc _ _ (by omega)]; exact h4, by rw [hc _ _ (by omega)]; exact h5, ⟨by rw [hc _ _ (by omega)]; exact h6, hl⟩, bnext h7 hb⟩
theorem AwS.store {W0 W : World} {g p : Nat} {v : Value} (h : AwS W0 W g v) (hp : W0.heap.size ≤ p) (b0 b1 b2 b3 b4 b5 b6 : Value) :
    Below W0.heap.size W0 (((((((W.setCell ⟨p, 0, none⟩ b0).setCell ⟨p, 1, none⟩ b1).setCell ⟨p, 2, none⟩ b2).setCell ⟨p, 3, none⟩ b3).setCell ⟨p, 4, none⟩ b4).setCell ⟨p, 5, none⟩ b5).setCell ⟨p, 6, none⟩ b6) :=
  grown_below h.2.2.2.2.2.2.2 (grown_set (grown_set (grown_set (grown_set (grown_set (grown_set (grown_set (grown_refl _ _) 0 b0) 1 b1) 2 b2) 3 b3) 4 b4) 5 b5) 6 b6) hp
theorem aw_err {W0 W w' : World} {g : Nat} {v : Value} {P : Nat → Prop} {ms : List Mnt} {E : Int} {e : Ending} (h : AwS W0 W g v) (hn : NsErr P 3 (Ns.at_ 1) (ms, E) W e w') :
    ∃ a8 n8 c8, e = .returned (.tuple #[.agg #[.int .i64 3, .int .i64 0, .int .i64 1, .int .i64 0, .string ⟨#[]⟩, .string ⟨#[47, 120]⟩, .slice a8 n8 c8], .int .i64 E]) ∧ MIn w' P (.slice a8 n8 c8) ms ∧ Below W.heap.size W w' ∧ AwS W0 w' g v := by
  obtain ⟨a, n, c, h1, h2, h3⟩ := hn
  exact ⟨a, n, c, h1, h2, h3, h.next h3⟩

/-- What stands behind the first statements of a code. -/
def behind : Nat → Code → Code
  | 0, c => c
  | n + 1, .seq _ b => behind n b
  | _ + 1, c => c
/-- The first statement of a code. -/
def ahead : Code → Code
  | .seq a _ => a
  | c => c

set_option maxRecDepth 100000 in
set_option maxHeartbeats 100000000 in
theorem aw15 (w V10 : World) (gn : Nat) (g7 : Nat) (a7 : Option Addr) (n7 : Nat) (c7 : Nat) (a6 : Option Addr) (c6 : Nat) (HN1 : Hid (V10.heap[gn]? = some (.cells #[.int .i64 3, .int .i64 0, .int .i64 1, .int .i64 0, .string ⟨#[]⟩, .string ⟨#[47, 120]⟩, .slice none 0 0] 26 (0, 0)))) (HN7 : Hid (V10.heap[g7]? = some (.cells #[.int .i64 3, .int .i64 0, .int .i64 1, .int .i64 0, .string ⟨#[]⟩, .string ⟨#[47, 120]⟩, .slice a7 n7 c7] 26 (0, 0)))) (HM7 : Hid (Mnts V10 (.slice a7 n7 c7) [])) (HB : Hid (Below w.heap.size w V10)) (u0 u2 u3 u4 u5 u6 u8 u10 u13 u16 u18 u19 u20 u21 u22 u23 u24 u25 u26 u27 u28 u29 u30 u31 u32 u33 u34 u35 u36 u37 u38 u39 u40 u41 u42 u43 u44 u45 u46 u47 u48 u49 u50 u51 u52 u53 u54 u55 u56 u57 u58 u59 u60 u61 u62 u63 u64 u65 u66 u67 u68 u69 u70 u71 u72 u73 u74 u75 u76 u77 u78 u79 u80 u81 u82 u83 u84 u85 u86 u87 u88 u89 u90 u91 u92 u93 u94 u95 u96 u97 u98 u99 u100 u101 u102 u103 u104 u105 u106 u107 u108 u109 u110 u111 u112 u113 u114 u115 u116 u117 u118 u119 u120 u121 u122 u123 u124 u125 u126 u127 u128 u129 u130 u131 u132 u133 u134 u135 u136 u137 u138 u139 u140 u141 u142 u143 u144 u145 u146 u147 u148 u149 u150 u151 u152 u153 u154 u155 u156 u157 u158 u159 u160 u161 u162 u163 u164 u165 u166 u167 u168 u169 u170 u171 u172 u173 u174 u175 u176 u177 u178 u179 : Value) (C0 : Code) (hC0 : ((Try.f11.body.map (behind 13)).getD .skip) = C0) :
    Code.wp Try.prog C0 (bodyPost Try.prog Try.f11 fun e w' => e = .returned (.bool true) ∧ Below w.heap.size w w') ⟨(List.toArray (u0 :: .pointer (some ⟨gn, 0, none⟩) :: u2 :: u3 :: u4 :: u5 :: u6 :: .int .i64 7 :: u8 :: .int .i64 12 :: u10 :: .int .i64 0 :: .slice a6 2 c6 :: u13 :: .pointer (some ⟨g7, 0, none⟩) :: .int .i64 0 :: u16 :: .bool false :: u18 :: u19 :: u20 :: u21 :: u22 :: u23 :: u24 :: u25 :: u26 :: u27 :: u28 :: u29 :: u30 :: u31 :: u32 :: u33 :: u34 :: u35 :: u36 :: u37 :: u38 :: u39 :: u40 :: u41 :: u42 :: u43 :: u44 :: u45 :: u46 :: u47 :: u48 :: u49 :: u50 :: u51 :: u52 :: u53 :: u54 :: u55 :: u56 :: u57 :: u58 :: u59 :: u60 :: u61 :: u62 :: u63 :: u64 :: u65 :: u66 :: u67 :: u68 :: u69 :: u70 :: u71 :: u72 :: u73 :: u74 :: u75 :: u76 :: u77 :: u78 :: u79 :: u80 :: u81 :: u82 :: u83 :: u84 :: u85 :: u86 :: u87 :: u88 :: u89 :: u90 :: u91 :: u92 :: u93 :: u94 :: u95 :: u96 :: u97 :: u98 :: u99 :: u100 :: u101 :: u102 :: u103 :: u104 :: u105 :: u106 :: u107 :: u108 :: u109 :: u110 :: u111 :: u112 :: u113 :: u114 :: u115 :: u116 :: u117 :: u118 :: u119 :: u120 :: u121 :: u122 :: u123 :: u124 :: u125 :: u126 :: u127 :: u128 :: u129 :: u130 :: u131 :: u132 :: u133 :: u134 :: u135 :: u136 :: u137 :: u138 :: u139 :: u140 :: u141 :: u142 :: u143 :: u144 :: u145 :: u146 :: u147 :: u148 :: u149 :: u150 :: u151 :: u152 :: u153 :: u154 :: u155 :: u156 :: u157 :: u158 :: u159 :: u160 :: u161 :: u162 :: u163 :: u164 :: u165 :: u166 :: u167 :: u168 :: u169 :: u170 :: u171 :: u172 :: u173 :: u174 :: u175 :: u176 :: u177 :: u178 :: u179 :: [])), []⟩ V10 := by
  subst hC0
  conv => arg 2; whnf
  go_upto_region 15 with fail
  go_cut [19] (fun e w' => e = .int .i64 45 ∧ Hid (Below V10.heap.size V10 w'))
  case first =>
    have HBX := HN7
    have HMM := HM7
    have HAT : Hid (∀ (k : Int) (W : World), AwS V10 W g7 (.slice a7 n7 c7) → Calls Try.prog 31 #[.int .i64 k] W fun e w' => e = .returned (cv k) ∧ Below W.heap.size W w' ∧ AwS V10 w' g7 (.slice a7 n7 c7)) := fun k W h => (at_any k W).mono fun e w' h' => ⟨h'.1, h'.2, h.next h'.2⟩
    have HSD : Hid (AwS V10 V10.drew g7 (.slice a7 n7 c7)) := aw_s HBX.out (below_drew1 (Below.refl _ _))
    have HSE : Hid (AwS V10 (V10.alloc (.cells #[.int .i64 0, .int .i64 0, .int .i64 0, .int .i64 0, .string ⟨#[]⟩, .string ⟨#[]⟩, .slice none 0 0] 26)).drew g7 (.slice a7 n7 c7)) := aw_s HBX.out (below_drew1 ((Below.refl _ _).alloc (Nat.le_refl _) _))
    have KA : Hid (∀ {W : World} (o : Obj), AwS V10 W g7 (.slice a7 n7 c7) → AwS V10 (W.alloc o) g7 (.slice a7 n7 c7)) := fun o h => h.next ((Below.refl _ _).alloc (Nat.le_refl _) o)
    have KS : Hid (∀ {W : World} {p : Nat} (b0 b1 b2 b3 b4 b5 b6 : Value), V10.heap.size ≤ p → AwS V10 W g7 (.slice a7 n7 c7) → AwS V10 (((((((W.setCell ⟨p, 0, none⟩ b0).setCell ⟨p, 1, none⟩ b1).setCell ⟨p, 2, none⟩ b2).setCell ⟨p, 3, none⟩ b3).setCell ⟨p, 4, none⟩ b4).setCell ⟨p, 5, none⟩ b5).setCell ⟨p, 6, none⟩ b6) g7 (.slice a7 n7 c7)) := fun b0 b1 b2 b3 b4 b5 b6 hp h => aw_s HBX.out (h.store hp b0 b1 b2 b3 b4 b5 b6)
    have HCL : Hid (∀ (W : World), AwS V10 W g7 (.slice a7 n7 c7) → Calls Try.prog 30 #[.agg #[.int .i64 3, .int .i64 0, .int .i64 1, .int .i64 0, .string ⟨#[]⟩, .string ⟨#[47, 120]⟩, .slice a7 n7 c7], cv 5, cv 6] W fun e w' => ∃ a8 n8 c8, e = .returned (.tuple #[.agg #[.int .i64 3, .int .i64 0, .int .i64 1, .int .i64 0, .string ⟨#[]⟩, .string ⟨#[47, 120]⟩, .slice a8 n8 c8], .int .i64 45]) ∧ MIn w' (fun b => b < V10.heap.size ∨ W.heap.size ≤ b) (.slice a8 n8 c8) [] ∧ Below W.heap.size W w' ∧ AwS V10 w' g7 (.slice a7 n7 c7)) := fun W h => by
      have hm := HMM.out
      have hP : ∀ b, W.heap.size ≤ b → (fun b => b < V10.heap.size ∨ W.heap.size ≤ b) b := fun b hb => Or.inr hb
      have hc := mcut_any (fun b => b < V10.heap.size ∨ W.heap.size ≤ b) 3 (Ns.at_ 1) (.slice a7 n7 c7) [] (Ns.at_ 5) (Ns.at_ 6) W (hm.below h.2.2.2.2.2.2.2) hP (by decide) (by decide)
      rw [show Ns.cut [] (Ns.at_ 5) (Ns.at_ 6) = ([], 45) from by decide] at hc
      exact hc.mono fun e w' h' => aw_err h h'
    go_region_held_law (fun W' => AwS V10 W' g7 (.slice a7 n7 c7)) ((first | (with_reducible assumption) | (with_reducible exact HSD.out) | (with_reducible exact HSE.out) | (with_reducible exact KA.out _ (by assumption)) | (with_reducible exact KS.out _ _ _ _ _ _ _ (by first | exact Nat.le_refl _ | assumption) (by assumption)))) (first | (go_at_call 31; (with_reducible refine (HAT.out _ _ (by assumption)).mono ?_); rintro e wx ⟨rfl, b, hkeep⟩; (first | (replace hz := Lib.hid ((b.block _ (row_lt hz.out)).trans hz.out)) | (with_reducible have hz := Lib.hid (carry_new b)) | (with_reducible have hz := Lib.hid (carry_drew b)) | skip); clear b; have hsz := hkeep.2.2.2.2.2.2.2.size) | (go_at_call 30; (first | (have hlt := row_lt hz.out) | skip); (with_reducible refine (HCL.out _ (by assumption)).mono ?_); rintro e wx ⟨a8, n8, c8, rfl, hmn, b, hkeep⟩; (first | (have hlt0 := hlt; clear hlt0) | (with_reducible have hlt := carry_lt b) | (with_reducible have hlt := carry_ltd b) | skip); (first | (replace hz := Lib.hid ((b.block _ (row_lt hz.out)).trans hz.out)) | (with_reducible have hz := Lib.hid (carry_new b)) | (with_reducible have hz := Lib.hid (carry_drew b)) | skip); clear b; (first | (have hq := hz; obtain ⟨⟨z0, z1, z2, z3, z4, z5, z6⟩, ⟨y0, y1, y2, y3, y4, y5, y6⟩⟩ := ns_reads hq.out; clear hq) | skip)))
    all_goals
      go_wp2_with fail
      go_meet
      first | (with_reducible exact ⟨rfl, Lib.hid (KA.out _ hkeep).2.2.2.2.2.2.2⟩) | exact ⟨rfl, Lib.hid (KS.out _ _ _ _ _ _ _ (by first | exact Nat.le_refl _ | assumption) hkeep).2.2.2.2.2.2.2⟩
  case rest =>
    obtain ⟨rfl, HBW⟩ := hcut
    generalize wc = V11 at *
    replace HN1 := Lib.hid ((HBW.out.block _ (row_lt HN1.out)).trans HN1.out)
    replace HN7 := Lib.hid ((HBW.out.block _ (row_lt HN7.out)).trans HN7.out)
    replace HM7 := Lib.hid (HM7.out.below HBW.out)
    replace HB := Lib.hid (bnext HB.out HBW.out)
    clear HBW
    have HSM := Lib.hid (show Calls Try.prog 26 #[.agg #[.int .i64 3, .int .i64 0, .int .i64 1, .int .i64 0, .string ⟨#[]⟩, .string ⟨#[47, 120]⟩, .slice a7 n7 c7], .agg #[.int .i64 3, .int .i64 0, .int .i64 1, .int .i64 0, .string ⟨#[]⟩, .string ⟨#[47, 120]⟩, .slice none 0 0]] V11 fun e w' => e = .returned (.bool true) ∧ Below V11.heap.size V11 w' from
      (msamens_any 3 (Ns.at_ 1) _ [] 3 (Ns.at_ 1) _ [] V11 HM7.out (mnts_nil _) (by decide) (by decide) (by decide) (by decide)).mono fun e w' h' => ⟨by rw [← (Ns.same?_refl (Ns.at_ 1) [])]; exact h'.1, h'.2⟩)
    obtain ⟨⟨r0, r1, r2, r3, r4, r5, r6⟩, _⟩ := ns_reads HN1.out
    obtain ⟨⟨s0, s1, s2, s3, s4, s5, s6⟩, _⟩ := ns_reads HN7.out
    go_wp2_with fail
    (with_reducible refine HSM.out.mono ?_); rintro e w9 ⟨rfl, b9⟩
    have HB9 := Lib.hid (bnext HB.out b9)
    clear b9 r0 r1 r2 r3 r4 r5 r6 s0 s1 s2 s3 s4 s5 s6
    go_wp2_with fail
    go_ret
    exact ⟨rfl, HB9.out⟩

set_option maxRecDepth 100000 in
set_option maxHeartbeats 100000000 in
theorem aw14 (w V9 : World) (gn : Nat) (g7 : Nat) (a7 : Option Addr) (n7 : Nat) (c7 : Nat) (a6 : Option Addr) (c6 : Nat) (HN1 : Hid (V9.heap[gn]? = some (.cells #[.int .i64 3, .int .i64 0, .int .i64 1, .int .i64 0, .string ⟨#[]⟩, .string ⟨#[47, 120]⟩, .slice none 0 0] 26 (0, 0)))) (HN7 : Hid (V9.heap[g7]? = some (.cells #[.int .i64 3, .int .i64 0, .int .i64 1, .int .i64 0, .string ⟨#[]⟩, .string ⟨#[47, 120]⟩, .slice a7 n7 c7] 26 (0, 0)))) (HM7 : Hid (Mnts V9 (.slice a7 n7 c7) [])) (HB : Hid (Below w.heap.size w V9)) (u0 u2 u3 u4 u5 u6 u8 u10 u13 u16 u17 u18 u19 u20 u21 u22 u23 u24 u25 u26 u27 u28 u29 u30 u31 u32 u33 u34 u35 u36 u37 u38 u39 u40 u41 u42 u43 u44 u45 u46 u47 u48 u49 u50 u51 u52 u53 u54 u55 u56 u57 u58 u59 u60 u61 u62 u63 u64 u65 u66 u67 u68 u69 u70 u71 u72 u73 u74 u75 u76 u77 u78 u79 u80 u81 u82 u83 u84 u85 u86 u87 u88 u89 u90 u91 u92 u93 u94 u95 u96 u97 u98 u99 u100 u101 u102 u103 u104 u105 u106 u107 u108 u109 u110 u111 u112 u113 u114 u115 u116 u117 u118 u119 u120 u121 u122 u123 u124 u125 u126 u127 u128 u129 u130 u131 u132 u133 u134 u135 u136 u137 u138 u139 u140 u141 u142 u143 u144 u145 u146 u147 u148 u149 u150 u151 u152 u153 u154 u155 u156 u157 u158 u159 u160 u161 u162 u163 u164 u165 u166 u167 u168 u169 u170 u171 u172 u173 u174 u175 u176 u177 u178 u179 : Value) (C0 : Code) (hC0 : ((Try.f11.body.map (behind 12)).getD .skip) = C0) :
    Code.wp Try.prog C0 (bodyPost Try.prog Try.f11 fun e w' => e = .returned (.bool true) ∧ Below w.heap.size w w') ⟨(List.toArray (u0 :: .pointer (some ⟨gn, 0, none⟩) :: u2 :: u3 :: u4 :: u5 :: u6 :: .int .i64 7 :: u8 :: .int .i64 12 :: u10 :: .int .i64 0 :: .slice a6 2 c6 :: u13 :: .pointer (some ⟨g7, 0, none⟩) :: .int .i64 0 :: u16 :: u17 :: u18 :: u19 :: u20 :: u21 :: u22 :: u23 :: u24 :: u25 :: u26 :: u27 :: u28 :: u29 :: u30 :: u31 :: u32 :: u33 :: u34 :: u35 :: u36 :: u37 :: u38 :: u39 :: u40 :: u41 :: u42 :: u43 :: u44 :: u45 :: u46 :: u47 :: u48 :: u49 :: u50 :: u51 :: u52 :: u53 :: u54 :: u55 :: u56 :: u57 :: u58 :: u59 :: u60 :: u61 :: u62 :: u63 :: u64 :: u65 :: u66 :: u67 :: u68 :: u69 :: u70 :: u71 :: u72 :: u73 :: u74 :: u75 :: u76 :: u77 :: u78 :: u79 :: u80 :: u81 :: u82 :: u83 :: u84 :: u85 :: u86 :: u87 :: u88 :: u89 :: u90 :: u91 :: u92 :: u93 :: u94 :: u95 :: u96 :: u97 :: u98 :: u99 :: u100 :: u101 :: u102 :: u103 :: u104 :: u105 :: u106 :: u107 :: u108 :: u109 :: u110 :: u111 :: u112 :: u113 :: u114 :: u115 :: u116 :: u117 :: u118 :: u119 :: u120 :: u121 :: u122 :: u123 :: u124 :: u125 :: u126 :: u127 :: u128 :: u129 :: u130 :: u131 :: u132 :: u133 :: u134 :: u135 :: u136 :: u137 :: u138 :: u139 :: u140 :: u141 :: u142 :: u143 :: u144 :: u145 :: u146 :: u147 :: u148 :: u149 :: u150 :: u151 :: u152 :: u153 :: u154 :: u155 :: u156 :: u157 :: u158 :: u159 :: u160 :: u161 :: u162 :: u163 :: u164 :: u165 :: u166 :: u167 :: u168 :: u169 :: u170 :: u171 :: u172 :: u173 :: u174 :: u175 :: u176 :: u177 :: u178 :: u179 :: [])), []⟩ V9 := by
  subst hC0
  conv => arg 2; whnf
  go_upto_region 14 with fail
  go_cut [16, 17] (fun u o w' => ∃ a n c, u = .slice a n c ∧ o = .bool false ∧ Hid (Tgts w' (.slice a n c) []) ∧ Hid (Below V9.heap.size V9 w'))
  case first =>
    have HBX := HN7
    have HMM := HM7
    have HAT : Hid (∀ (k : Int) (W : World), AwS V9 W g7 (.slice a7 n7 c7) → Calls Try.prog 31 #[.int .i64 k] W fun e w' => e = .returned (cv k) ∧ Below W.heap.size W w' ∧ AwS V9 w' g7 (.slice a7 n7 c7)) := fun k W h => (at_any k W).mono fun e w' h' => ⟨h'.1, h'.2, h.next h'.2⟩
    have HSD : Hid (AwS V9 V9.drew g7 (.slice a7 n7 c7)) := aw_s HBX.out (below_drew1 (Below.refl _ _))
    have HCL : Hid (∀ (W : World), AwS V9 W g7 (.slice a7 n7 c7) → Calls Try.prog 23 #[.agg #[.int .i64 3, .int .i64 0, .int .i64 1, .int .i64 0, .string ⟨#[]⟩, .string ⟨#[47, 120]⟩, .slice a7 n7 c7], cv 5] W fun e w' => ∃ a8 n8 c8, e = .returned (.tuple #[.slice a8 n8 c8, .bool false]) ∧ Tgts w' (.slice a8 n8 c8) [] ∧ AwS V9 w' g7 (.slice a7 n7 c7)) := fun W h => by
      have hm := HMM.out
      have hc := munion_any 3 (Ns.at_ 1) (.slice a7 n7 c7) [] (Ns.at_ 5) W (hm.below h.2.2.2.2.2.2.2) (by decide) (by decide)
      rw [show Ns.union [] (Ns.at_ 5) = ([], false) from by decide] at hc
      exact hc.mono fun e w' h' => by
        obtain ⟨a, n, c, h1, h2, h3⟩ := h'
        exact ⟨a, n, c, h1, h2, h.next h3⟩
    go_region_held_law (fun W' => AwS V9 W' g7 (.slice a7 n7 c7)) (first | (with_reducible assumption) | (with_reducible exact HSD.out)) (first | (go_at_call 31; (with_reducible refine (HAT.out _ _ (by assumption)).mono ?_); rintro e wx ⟨rfl, b, hkeep⟩; clear b) | (go_at_call 23; (with_reducible refine (HCL.out _ (by assumption)).mono ?_); rintro e wx ⟨a8, n8, c8, rfl, hmn, hkeep⟩))
    all_goals
      go_wp2_with fail
      go_meet
      exact ⟨a8, n8, c8, rfl, rfl, Lib.hid hmn, Lib.hid hkeep.2.2.2.2.2.2.2⟩
  case rest =>
    obtain ⟨a8, n8, c8, rfl, rfl, HT8, HBW⟩ := hcut
    generalize wc = V10 at *
    replace HN1 := Lib.hid ((HBW.out.block _ (row_lt HN1.out)).trans HN1.out)
    replace HN7 := Lib.hid ((HBW.out.block _ (row_lt HN7.out)).trans HN7.out)
    replace HM7 := Lib.hid (HM7.out.below HBW.out)
    replace HB := Lib.hid (bnext HB.out HBW.out)
    clear HBW HT8
    rename (∀ (a : Act) (w : World), Code.wp _ _ _ a w → _) => ax
    exact ax _ _ (aw15 w _ gn g7 a7 n7 c7 a6 c6 HN1 HN7 HM7 HB _ _ _ _ _ _ _ _ _ _ _ _ _ _ _ _ _ _ _ _ _ _ _ _ _ _ _ _ _ _ _ _ _ _ _ _ _ _ _ _ _ _ _ _ _ _ _ _ _ _ _ _ _ _ _ _ _ _ _ _ _ _ _ _ _ _ _ _ _ _ _ _ _ _ _ _ _ _ _ _ _ _ _ _ _ _ _ _ _ _ _ _ _ _ _ _ _ _ _ _ _ _ _ _ _ _ _ _ _ _ _ _ _ _ _ _ _ _ _ _ _ _ _ _ _ _ _ _ _ _ _ _ _ _ _ _ _ _ _ _ _ _ _ _ _ _ _ _ _ _ _ _ _ _ _ _ _ _ _ _ _ _ _ _ _ _ _ _ _ _ _ _ _ (by kernel_rfl))

set_option maxRecDepth 100000 in
set_option maxHeartbeats 100000000 in
theorem aw13 (w V8 : World) (gn : Nat) (g2 : Nat) (a3 : Option Addr) (n3 : Nat) (c3 : Nat) (a6 : Option Addr) (c6 : Nat) (HN1 : Hid (V8.heap[gn]? = some (.cells #[.int .i64 3, .int .i64 0, .int .i64 1, .int .i64 0, .string ⟨#[]⟩, .string ⟨#[47, 120]⟩, .slice none 0 0] 26 (0, 0)))) (HN2 : Hid (V8.heap[g2]? = some (.cells #[.int .i64 3, .int .i64 0, .int .i64 1, .int .i64 0, .string ⟨#[]⟩, .string ⟨#[47, 120]⟩, .slice a3 n3 c3] 26 (0, 0)))) (HM2 : Hid (Mnts V8 (.slice a3 n3 c3) Ns.am2)) (HB : Hid (Below w.heap.size w V8)) (u0 u3 u4 u5 u6 u8 u10 u13 u14 u15 u16 u17 u18 u19 u20 u21 u22 u23 u24 u25 u26 u27 u28 u29 u30 u31 u32 u33 u34 u35 u36 u37 u38 u39 u40 u41 u42 u43 u44 u45 u46 u47 u48 u49 u50 u51 u52 u53 u54 u55 u56 u57 u58 u59 u60 u61 u62 u63 u64 u65 u66 u67 u68 u69 u70 u71 u72 u73 u74 u75 u76 u77 u78 u79 u80 u81 u82 u83 u84 u85 u86 u87 u88 u89 u90 u91 u92 u93 u94 u95 u96 u97 u98 u99 u100 u101 u102 u103 u104 u105 u106 u107 u108 u109 u110 u111 u112 u113 u114 u115 u116 u117 u118 u119 u120 u121 u122 u123 u124 u125 u126 u127 u128 u129 u130 u131 u132 u133 u134 u135 u136 u137 u138 u139 u140 u141 u142 u143 u144 u145 u146 u147 u148 u149 u150 u151 u152 u153 u154 u155 u156 u157 u158 u159 u160 u161 u162 u163 u164 u165 u166 u167 u168 u169 u170 u171 u172 u173 u174 u175 u176 u177 u178 u179 : Value) (C0 : Code) (hC0 : ((Try.f11.body.map (behind 11)).getD .skip) = C0) :
    Code.wp Try.prog C0 (bodyPost Try.prog Try.f11 fun e w' => e = .returned (.bool true) ∧ Below w.heap.size w w') ⟨(List.toArray (u0 :: .pointer (some ⟨gn, 0, none⟩) :: .pointer (some ⟨g2, 0, none⟩) :: u3 :: u4 :: u5 :: u6 :: .int .i64 7 :: u8 :: .int .i64 12 :: u10 :: .int .i64 0 :: .slice a6 2 c6 :: u13 :: u14 :: u15 :: u16 :: u17 :: u18 :: u19 :: u20 :: u21 :: u22 :: u23 :: u24 :: u25 :: u26 :: u27 :: u28 :: u29 :: u30 :: u31 :: u32 :: u33 :: u34 :: u35 :: u36 :: u37 :: u38 :: u39 :: u40 :: u41 :: u42 :: u43 :: u44 :: u45 :: u46 :: u47 :: u48 :: u49 :: u50 :: u51 :: u52 :: u53 :: u54 :: u55 :: u56 :: u57 :: u58 :: u59 :: u60 :: u61 :: u62 :: u63 :: u64 :: u65 :: u66 :: u67 :: u68 :: u69 :: u70 :: u71 :: u72 :: u73 :: u74 :: u75 :: u76 :: u77 :: u78 :: u79 :: u80 :: u81 :: u82 :: u83 :: u84 :: u85 :: u86 :: u87 :: u88 :: u89 :: u90 :: u91 :: u92 :: u93 :: u94 :: u95 :: u96 :: u97 :: u98 :: u99 :: u100 :: u101 :: u102 :: u103 :: u104 :: u105 :: u106 :: u107 :: u108 :: u109 :: u110 :: u111 :: u112 :: u113 :: u114 :: u115 :: u116 :: u117 :: u118 :: u119 :: u120 :: u121 :: u122 :: u123 :: u124 :: u125 :: u126 :: u127 :: u128 :: u129 :: u130 :: u131 :: u132 :: u133 :: u134 :: u135 :: u136 :: u137 :: u138 :: u139 :: u140 :: u141 :: u142 :: u143 :: u144 :: u145 :: u146 :: u147 :: u148 :: u149 :: u150 :: u151 :: u152 :: u153 :: u154 :: u155 :: u156 :: u157 :: u158 :: u159 :: u160 :: u161 :: u162 :: u163 :: u164 :: u165 :: u166 :: u167 :: u168 :: u169 :: u170 :: u171 :: u172 :: u173 :: u174 :: u175 :: u176 :: u177 :: u178 :: u179 :: [])), []⟩ V8 := by
  subst hC0
  conv => arg 2; whnf
  go_upto_region 13 with fail
  go_cut [14, 15] (fun q e w' => ∃ gz a n c, q = .pointer (some ⟨gz, 0, none⟩) ∧ e = .int .i64 0 ∧ Hid (V8.heap.size ≤ gz) ∧ Hid (w'.heap[gz]? = some (.cells #[.int .i64 3, .int .i64 0, .int .i64 1, .int .i64 0, .string ⟨#[]⟩, .string ⟨#[47, 120]⟩, .slice a n c] 26 (0, 0))) ∧ Hid (Mnts w' (.slice a n c) []) ∧ Hid (Below V8.heap.size V8 w'))
  case first =>
    have HBX := HN2
    have HMM := HM2
    have HAT : Hid (∀ (k : Int) (W : World), AwS V8 W g2 (.slice a3 n3 c3) → Calls Try.prog 31 #[.int .i64 k] W fun e w' => e = .returned (cv k) ∧ Below W.heap.size W w' ∧ AwS V8 w' g2 (.slice a3 n3 c3)) := fun k W h => (at_any k W).mono fun e w' h' => ⟨h'.1, h'.2, h.next h'.2⟩
    have HSD : Hid (AwS V8 V8.drew g2 (.slice a3 n3 c3)) := aw_s HBX.out (below_drew1 (Below.refl _ _))
    have HSE : Hid (AwS V8 (V8.alloc (.cells #[.int .i64 0, .int .i64 0, .int .i64 0, .int .i64 0, .string ⟨#[]⟩, .string ⟨#[]⟩, .slice none 0 0] 26)).drew g2 (.slice a3 n3 c3)) := aw_s HBX.out (below_drew1 ((Below.refl _ _).alloc (Nat.le_refl _) _))
    have KA : Hid (∀ {W : World} (o : Obj), AwS V8 W g2 (.slice a3 n3 c3) → AwS V8 (W.alloc o) g2 (.slice a3 n3 c3)) := fun o h => h.next ((Below.refl _ _).alloc (Nat.le_refl _) o)
    have KS : Hid (∀ {W : World} {p : Nat} (b0 b1 b2 b3 b4 b5 b6 : Value), V8.heap.size ≤ p → AwS V8 W g2 (.slice a3 n3 c3) → AwS V8 (((((((W.setCell ⟨p, 0, none⟩ b0).setCell ⟨p, 1, none⟩ b1).setCell ⟨p, 2, none⟩ b2).setCell ⟨p, 3, none⟩ b3).setCell ⟨p, 4, none⟩ b4).setCell ⟨p, 5, none⟩ b5).setCell ⟨p, 6, none⟩ b6) g2 (.slice a3 n3 c3)) := fun b0 b1 b2 b3 b4 b5 b6 hp h => aw_s HBX.out (h.store hp b0 b1 b2 b3 b4 b5 b6)
    have HCL : Hid (∀ (W : World), AwS V8 W g2 (.slice a3 n3 c3) → Calls Try.prog 29 #[.agg #[.int .i64 3, .int .i64 0, .int .i64 1, .int .i64 0, .string ⟨#[]⟩, .string ⟨#[47, 120]⟩, .slice a3 n3 c3], cv 5] W fun e w' => ∃ a8 n8 c8, e = .returned (.tuple #[.agg #[.int .i64 3, .int .i64 0, .int .i64 1, .int .i64 0, .string ⟨#[]⟩, .string ⟨#[47, 120]⟩, .slice a8 n8 c8], .int .i64 0]) ∧ MIn w' (fun b => b < V8.heap.size ∨ W.heap.size ≤ b) (.slice a8 n8 c8) [] ∧ Below W.heap.size W w' ∧ AwS V8 w' g2 (.slice a3 n3 c3)) := fun W h => by
      have hm := HMM.out
      have hP : ∀ b, W.heap.size ≤ b → (fun b => b < V8.heap.size ∨ W.heap.size ≤ b) b := fun b hb => Or.inr hb
      have hc := mcutall_any (fun b => b < V8.heap.size ∨ W.heap.size ≤ b) 3 (Ns.at_ 1) (.slice a3 n3 c3) Ns.am2 (Ns.at_ 5) W (hm.below h.2.2.2.2.2.2.2) hP (by decide) (by decide)
      rw [show Ns.cutAll Ns.am2 (Ns.at_ 5) = ([], 0) from by decide] at hc
      exact hc.mono fun e w' h' => aw_err h h'
    go_region_held_law (fun W' => AwS V8 W' g2 (.slice a3 n3 c3)) ((first | (with_reducible assumption) | (with_reducible exact HSD.out) | (with_reducible exact HSE.out) | (with_reducible exact KA.out _ (by assumption)) | (with_reducible exact KS.out _ _ _ _ _ _ _ (by first | exact Nat.le_refl _ | assumption) (by assumption)))) (first | (go_at_call 31; (with_reducible refine (HAT.out _ _ (by assumption)).mono ?_); rintro e wx ⟨rfl, b, hkeep⟩; (first | (replace hz := Lib.hid ((b.block _ (row_lt hz.out)).trans hz.out)) | (with_reducible have hz := Lib.hid (carry_new b)) | (with_reducible have hz := Lib.hid (carry_drew b)) | skip); clear b; have hsz := hkeep.2.2.2.2.2.2.2.size) | (go_at_call 29; (first | (have hlt := row_lt hz.out) | skip); (with_reducible refine (HCL.out _ (by assumption)).mono ?_); rintro e wx ⟨a8, n8, c8, rfl, hmn, b, hkeep⟩; (first | (have hlt0 := hlt; clear hlt0) | (with_reducible have hlt := carry_lt b) | (with_reducible have hlt := carry_ltd b) | skip); (first | (replace hz := Lib.hid ((b.block _ (row_lt hz.out)).trans hz.out)) | (with_reducible have hz := Lib.hid (carry_new b)) | (with_reducible have hz := Lib.hid (carry_drew b)) | skip); clear b; (first | (have hq := hz; obtain ⟨⟨z0, z1, z2, z3, z4, z5, z6⟩, ⟨y0, y1, y2, y3, y4, y5, y6⟩⟩ := ns_reads hq.out; clear hq) | skip)))
    all_goals
      go_wp2_with fail
      go_meet
      first
        | (with_reducible exact ⟨_, a8, n8, c8, rfl, rfl, Lib.hid hkeep.2.2.2.2.2.2.2.size, Lib.hid (heap_alloc_new _ _), Lib.hid (hmn.mnts.below ((Below.refl _ _).alloc (Nat.le_refl _) _)), Lib.hid (KA.out _ hkeep).2.2.2.2.2.2.2⟩)
        | ((with_reducible refine ⟨_, a8, n8, c8, rfl, rfl, Lib.hid (by first | exact Nat.le_refl _ | assumption), Lib.hid ?_, Lib.hid ?_, Lib.hid ?_⟩); exact (ns_stored _ _ _ _ _ _ _ hz.out).1; exact (hmn.grown (ns_stored _ _ _ _ _ _ _ hz.out).2 (fun h => by rcases h with h | h <;> first | omega | (simp at h; omega) | (simp at h))).mnts; exact (KS.out _ _ _ _ _ _ _ (by first | exact Nat.le_refl _ | assumption) hkeep).2.2.2.2.2.2.2)
  case rest =>
    obtain ⟨g7, a7, n7, c7, rfl, rfl, HG7, HN7, HM7, HBW⟩ := hcut
    generalize wc = V9 at *
    clear HG7
    replace HN1 := Lib.hid ((HBW.out.block _ (row_lt HN1.out)).trans HN1.out)
    replace HB := Lib.hid (bnext HB.out HBW.out)
    clear HBW HN2 HM2
    rename (∀ (a : Act) (w : World), Code.wp _ _ _ a w → _) => ax
    exact ax _ _ (aw14 w _ gn g7 a7 n7 c7 a6 c6 HN1 HN7 HM7 HB _ _ _ _ _ _ _ _ _ _ _ _ _ _ _ _ _ _ _ _ _ _ _ _ _ _ _ _ _ _ _ _ _ _ _ _ _ _ _ _ _ _ _ _ _ _ _ _ _ _ _ _ _ _ _ _ _ _ _ _ _ _ _ _ _ _ _ _ _ _ _ _ _ _ _ _ _ _ _ _ _ _ _ _ _ _ _ _ _ _ _ _ _ _ _ _ _ _ _ _ _ _ _ _ _ _ _ _ _ _ _ _ _ _ _ _ _ _ _ _ _ _ _ _ _ _ _ _ _ _ _ _ _ _ _ _ _ _ _ _ _ _ _ _ _ _ _ _ _ _ _ _ _ _ _ _ _ _ _ _ _ _ _ _ _ _ _ _ _ _ _ _ _ _ (by kernel_rfl))

set_option maxRecDepth 100000 in
set_option maxHeartbeats 100000000 in
theorem aw12 (w V7 : World) (gn : Nat) (g2 : Nat) (a3 : Option Addr) (n3 : Nat) (c3 : Nat) (g5 : Nat) (a5 : Option Addr) (n5 : Nat) (c5 : Nat) (HN1 : Hid (V7.heap[gn]? = some (.cells #[.int .i64 3, .int .i64 0, .int .i64 1, .int .i64 0, .string ⟨#[]⟩, .string ⟨#[47, 120]⟩, .slice none 0 0] 26 (0, 0)))) (HN2 : Hid (V7.heap[g2]? = some (.cells #[.int .i64 3, .int .i64 0, .int .i64 1, .int .i64 0, .string ⟨#[]⟩, .string ⟨#[47, 120]⟩, .slice a3 n3 c3] 26 (0, 0)))) (HM2 : Hid (Mnts V7 (.slice a3 n3 c3) Ns.am2)) (HN5 : Hid (V7.heap[g5]? = some (.cells #[.int .i64 3, .int .i64 0, .int .i64 1, .int .i64 0, .string ⟨#[]⟩, .string ⟨#[47, 120]⟩, .slice a5 n5 c5] 26 (0, 0)))) (HM5 : Hid (Mnts V7 (.slice a5 n5 c5) Ns.amp)) (HB : Hid (Below w.heap.size w V7)) (u0 u3 u4 u5 u6 u8 u12 u13 u14 u15 u16 u17 u18 u19 u20 u21 u22 u23 u24 u25 u26 u27 u28 u29 u30 u31 u32 u33 u34 u35 u36 u37 u38 u39 u40 u41 u42 u43 u44 u45 u46 u47 u48 u49 u50 u51 u52 u53 u54 u55 u56 u57 u58 u59 u60 u61 u62 u63 u64 u65 u66 u67 u68 u69 u70 u71 u72 u73 u74 u75 u76 u77 u78 u79 u80 u81 u82 u83 u84 u85 u86 u87 u88 u89 u90 u91 u92 u93 u94 u95 u96 u97 u98 u99 u100 u101 u102 u103 u104 u105 u106 u107 u108 u109 u110 u111 u112 u113 u114 u115 u116 u117 u118 u119 u120 u121 u122 u123 u124 u125 u126 u127 u128 u129 u130 u131 u132 u133 u134 u135 u136 u137 u138 u139 u140 u141 u142 u143 u144 u145 u146 u147 u148 u149 u150 u151 u152 u153 u154 u155 u156 u157 u158 u159 u160 u161 u162 u163 u164 u165 u166 u167 u168 u169 u170 u171 u172 u173 u174 u175 u176 u177 u178 u179 : Value) (C0 : Code) (hC0 : ((Try.f11.body.map (behind 10)).getD .skip) = C0) :
    Code.wp Try.prog C0 (bodyPost Try.prog Try.f11 fun e w' => e = .returned (.bool true) ∧ Below w.heap.size w w') ⟨(List.toArray (u0 :: .pointer (some ⟨gn, 0, none⟩) :: .pointer (some ⟨g2, 0, none⟩) :: u3 :: u4 :: u5 :: u6 :: .int .i64 7 :: u8 :: .int .i64 12 :: .pointer (some ⟨g5, 0, none⟩) :: .int .i64 0 :: u12 :: u13 :: u14 :: u15 :: u16 :: u17 :: u18 :: u19 :: u20 :: u21 :: u22 :: u23 :: u24 :: u25 :: u26 :: u27 :: u28 :: u29 :: u30 :: u31 :: u32 :: u33 :: u34 :: u35 :: u36 :: u37 :: u38 :: u39 :: u40 :: u41 :: u42 :: u43 :: u44 :: u45 :: u46 :: u47 :: u48 :: u49 :: u50 :: u51 :: u52 :: u53 :: u54 :: u55 :: u56 :: u57 :: u58 :: u59 :: u60 :: u61 :: u62 :: u63 :: u64 :: u65 :: u66 :: u67 :: u68 :: u69 :: u70 :: u71 :: u72 :: u73 :: u74 :: u75 :: u76 :: u77 :: u78 :: u79 :: u80 :: u81 :: u82 :: u83 :: u84 :: u85 :: u86 :: u87 :: u88 :: u89 :: u90 :: u91 :: u92 :: u93 :: u94 :: u95 :: u96 :: u97 :: u98 :: u99 :: u100 :: u101 :: u102 :: u103 :: u104 :: u105 :: u106 :: u107 :: u108 :: u109 :: u110 :: u111 :: u112 :: u113 :: u114 :: u115 :: u116 :: u117 :: u118 :: u119 :: u120 :: u121 :: u122 :: u123 :: u124 :: u125 :: u126 :: u127 :: u128 :: u129 :: u130 :: u131 :: u132 :: u133 :: u134 :: u135 :: u136 :: u137 :: u138 :: u139 :: u140 :: u141 :: u142 :: u143 :: u144 :: u145 :: u146 :: u147 :: u148 :: u149 :: u150 :: u151 :: u152 :: u153 :: u154 :: u155 :: u156 :: u157 :: u158 :: u159 :: u160 :: u161 :: u162 :: u163 :: u164 :: u165 :: u166 :: u167 :: u168 :: u169 :: u170 :: u171 :: u172 :: u173 :: u174 :: u175 :: u176 :: u177 :: u178 :: u179 :: [])), []⟩ V7 := by
  subst hC0
  conv => arg 2; whnf
  go_upto_region 12 with fail
  go_cut [12, 13] (fun u o w' => ∃ a n c, u = .slice a n c ∧ o = .bool true ∧ Hid (Tgts w' (.slice a n c) [⟨Ns.at_ 7, true⟩, ⟨Ns.at_ 6, false⟩]) ∧ Hid (Below V7.heap.size V7 w'))
  case first =>
    have HBX := HN5
    have HMM := HM5
    have HAT : Hid (∀ (k : Int) (W : World), AwS V7 W g5 (.slice a5 n5 c5) → Calls Try.prog 31 #[.int .i64 k] W fun e w' => e = .returned (cv k) ∧ Below W.heap.size W w' ∧ AwS V7 w' g5 (.slice a5 n5 c5)) := fun k W h => (at_any k W).mono fun e w' h' => ⟨h'.1, h'.2, h.next h'.2⟩
    have HSD : Hid (AwS V7 V7.drew g5 (.slice a5 n5 c5)) := aw_s HBX.out (below_drew1 (Below.refl _ _))
    have HCL : Hid (∀ (W : World), AwS V7 W g5 (.slice a5 n5 c5) → Calls Try.prog 23 #[.agg #[.int .i64 3, .int .i64 0, .int .i64 1, .int .i64 0, .string ⟨#[]⟩, .string ⟨#[47, 120]⟩, .slice a5 n5 c5], cv 5] W fun e w' => ∃ a8 n8 c8, e = .returned (.tuple #[.slice a8 n8 c8, .bool true]) ∧ Tgts w' (.slice a8 n8 c8) [⟨Ns.at_ 7, true⟩, ⟨Ns.at_ 6, false⟩] ∧ AwS V7 w' g5 (.slice a5 n5 c5)) := fun W h => by
      have hm := HMM.out
      have hc := munion_any 3 (Ns.at_ 1) (.slice a5 n5 c5) Ns.amp (Ns.at_ 5) W (hm.below h.2.2.2.2.2.2.2) (by decide) (by decide)
      rw [show Ns.union Ns.amp (Ns.at_ 5) = ([⟨Ns.at_ 7, true⟩, ⟨Ns.at_ 6, false⟩], true) from by decide] at hc
      exact hc.mono fun e w' h' => by
        obtain ⟨a, n, c, h1, h2, h3⟩ := h'
        exact ⟨a, n, c, h1, h2, h.next h3⟩
    go_region_held_law (fun W' => AwS V7 W' g5 (.slice a5 n5 c5)) (first | (with_reducible assumption) | (with_reducible exact HSD.out)) (first | (go_at_call 31; (with_reducible refine (HAT.out _ _ (by assumption)).mono ?_); rintro e wx ⟨rfl, b, hkeep⟩; clear b) | (go_at_call 23; (with_reducible refine (HCL.out _ (by assumption)).mono ?_); rintro e wx ⟨a8, n8, c8, rfl, hmn, hkeep⟩))
    all_goals
      go_wp2_with fail
      go_meet
      exact ⟨a8, n8, c8, rfl, rfl, Lib.hid hmn, Lib.hid hkeep.2.2.2.2.2.2.2⟩
  case rest =>
    obtain ⟨a6, n6, c6, rfl, rfl, HT6, HBW⟩ := hcut
    generalize wc = V8 at *
    replace HN1 := Lib.hid ((HBW.out.block _ (row_lt HN1.out)).trans HN1.out)
    replace HN2 := Lib.hid ((HBW.out.block _ (row_lt HN2.out)).trans HN2.out)
    replace HM2 := Lib.hid (HM2.out.below HBW.out)
    replace HB := Lib.hid (bnext HB.out HBW.out)
    clear HBW
    obtain ⟨rfl, _⟩ := HT6.out.at
    clear HT6 HN5 HM5
    rename (∀ (a : Act) (w : World), Code.wp _ _ _ a w → _) => ax
    exact ax _ _ (aw13 w _ gn g2 a3 n3 c3 a6 c6 HN1 HN2 HM2 HB _ _ _ _ _ _ _ _ _ _ _ _ _ _ _ _ _ _ _ _ _ _ _ _ _ _ _ _ _ _ _ _ _ _ _ _ _ _ _ _ _ _ _ _ _ _ _ _ _ _ _ _ _ _ _ _ _ _ _ _ _ _ _ _ _ _ _ _ _ _ _ _ _ _ _ _ _ _ _ _ _ _ _ _ _ _ _ _ _ _ _ _ _ _ _ _ _ _ _ _ _ _ _ _ _ _ _ _ _ _ _ _ _ _ _ _ _ _ _ _ _ _ _ _ _ _ _ _ _ _ _ _ _ _ _ _ _ _ _ _ _ _ _ _ _ _ _ _ _ _ _ _ _ _ _ _ _ _ _ _ _ _ _ _ _ _ _ _ _ _ _ _ _ _ _ (by kernel_rfl))

set_option maxRecDepth 100000 in
set_option maxHeartbeats 100000000 in
theorem aw11 (w V6 : World) (gn : Nat) (g2 : Nat) (a3 : Option Addr) (n3 : Nat) (c3 : Nat) (HN1 : Hid (V6.heap[gn]? = some (.cells #[.int .i64 3, .int .i64 0, .int .i64 1, .int .i64 0, .string ⟨#[]⟩, .string ⟨#[47, 120]⟩, .slice none 0 0] 26 (0, 0)))) (HN2 : Hid (V6.heap[g2]? = some (.cells #[.int .i64 3, .int .i64 0, .int .i64 1, .int .i64 0, .string ⟨#[]⟩, .string ⟨#[47, 120]⟩, .slice a3 n3 c3] 26 (0, 0)))) (HM2 : Hid (Mnts V6 (.slice a3 n3 c3) Ns.am2)) (HB : Hid (Below w.heap.size w V6)) (u0 u3 u4 u5 u6 u8 u10 u11 u12 u13 u14 u15 u16 u17 u18 u19 u20 u21 u22 u23 u24 u25 u26 u27 u28 u29 u30 u31 u32 u33 u34 u35 u36 u37 u38 u39 u40 u41 u42 u43 u44 u45 u46 u47 u48 u49 u50 u51 u52 u53 u54 u55 u56 u57 u58 u59 u60 u61 u62 u63 u64 u65 u66 u67 u68 u69 u70 u71 u72 u73 u74 u75 u76 u77 u78 u79 u80 u81 u82 u83 u84 u85 u86 u87 u88 u89 u90 u91 u92 u93 u94 u95 u96 u97 u98 u99 u100 u101 u102 u103 u104 u105 u106 u107 u108 u109 u110 u111 u112 u113 u114 u115 u116 u117 u118 u119 u120 u121 u122 u123 u124 u125 u126 u127 u128 u129 u130 u131 u132 u133 u134 u135 u136 u137 u138 u139 u140 u141 u142 u143 u144 u145 u146 u147 u148 u149 u150 u151 u152 u153 u154 u155 u156 u157 u158 u159 u160 u161 u162 u163 u164 u165 u166 u167 u168 u169 u170 u171 u172 u173 u174 u175 u176 u177 u178 u179 : Value) (C0 : Code) (hC0 : ((Try.f11.body.map (behind 9)).getD .skip) = C0) :
    Code.wp Try.prog C0 (bodyPost Try.prog Try.f11 fun e w' => e = .returned (.bool true) ∧ Below w.heap.size w w') ⟨(List.toArray (u0 :: .pointer (some ⟨gn, 0, none⟩) :: .pointer (some ⟨g2, 0, none⟩) :: u3 :: u4 :: u5 :: u6 :: .int .i64 7 :: u8 :: .int .i64 12 :: u10 :: u11 :: u12 :: u13 :: u14 :: u15 :: u16 :: u17 :: u18 :: u19 :: u20 :: u21 :: u22 :: u23 :: u24 :: u25 :: u26 :: u27 :: u28 :: u29 :: u30 :: u31 :: u32 :: u33 :: u34 :: u35 :: u36 :: u37 :: u38 :: u39 :: u40 :: u41 :: u42 :: u43 :: u44 :: u45 :: u46 :: u47 :: u48 :: u49 :: u50 :: u51 :: u52 :: u53 :: u54 :: u55 :: u56 :: u57 :: u58 :: u59 :: u60 :: u61 :: u62 :: u63 :: u64 :: u65 :: u66 :: u67 :: u68 :: u69 :: u70 :: u71 :: u72 :: u73 :: u74 :: u75 :: u76 :: u77 :: u78 :: u79 :: u80 :: u81 :: u82 :: u83 :: u84 :: u85 :: u86 :: u87 :: u88 :: u89 :: u90 :: u91 :: u92 :: u93 :: u94 :: u95 :: u96 :: u97 :: u98 :: u99 :: u100 :: u101 :: u102 :: u103 :: u104 :: u105 :: u106 :: u107 :: u108 :: u109 :: u110 :: u111 :: u112 :: u113 :: u114 :: u115 :: u116 :: u117 :: u118 :: u119 :: u120 :: u121 :: u122 :: u123 :: u124 :: u125 :: u126 :: u127 :: u128 :: u129 :: u130 :: u131 :: u132 :: u133 :: u134 :: u135 :: u136 :: u137 :: u138 :: u139 :: u140 :: u141 :: u142 :: u143 :: u144 :: u145 :: u146 :: u147 :: u148 :: u149 :: u150 :: u151 :: u152 :: u153 :: u154 :: u155 :: u156 :: u157 :: u158 :: u159 :: u160 :: u161 :: u162 :: u163 :: u164 :: u165 :: u166 :: u167 :: u168 :: u169 :: u170 :: u171 :: u172 :: u173 :: u174 :: u175 :: u176 :: u177 :: u178 :: u179 :: [])), []⟩ V6 := by
  subst hC0
  conv => arg 2; whnf
  go_upto_region 11 with fail
  go_cut [10, 11] (fun q e w' => ∃ gz a n c, q = .pointer (some ⟨gz, 0, none⟩) ∧ e = .int .i64 0 ∧ Hid (V6.heap.size ≤ gz) ∧ Hid (w'.heap[gz]? = some (.cells #[.int .i64 3, .int .i64 0, .int .i64 1, .int .i64 0, .string ⟨#[]⟩, .string ⟨#[47, 120]⟩, .slice a n c] 26 (0, 0))) ∧ Hid (Mnts w' (.slice a n c) Ns.amp) ∧ Hid (Below V6.heap.size V6 w'))
  case first =>
    have HBX := HN2
    have HMM := HM2
    have HAT : Hid (∀ (k : Int) (W : World), AwS V6 W g2 (.slice a3 n3 c3) → Calls Try.prog 31 #[.int .i64 k] W fun e w' => e = .returned (cv k) ∧ Below W.heap.size W w' ∧ AwS V6 w' g2 (.slice a3 n3 c3)) := fun k W h => (at_any k W).mono fun e w' h' => ⟨h'.1, h'.2, h.next h'.2⟩
    have HSD : Hid (AwS V6 V6.drew g2 (.slice a3 n3 c3)) := aw_s HBX.out (below_drew1 (Below.refl _ _))
    have HSE : Hid (AwS V6 (V6.alloc (.cells #[.int .i64 0, .int .i64 0, .int .i64 0, .int .i64 0, .string ⟨#[]⟩, .string ⟨#[]⟩, .slice none 0 0] 26)).drew g2 (.slice a3 n3 c3)) := aw_s HBX.out (below_drew1 ((Below.refl _ _).alloc (Nat.le_refl _) _))
    have KA : Hid (∀ {W : World} (o : Obj), AwS V6 W g2 (.slice a3 n3 c3) → AwS V6 (W.alloc o) g2 (.slice a3 n3 c3)) := fun o h => h.next ((Below.refl _ _).alloc (Nat.le_refl _) o)
    have KS : Hid (∀ {W : World} {p : Nat} (b0 b1 b2 b3 b4 b5 b6 : Value), V6.heap.size ≤ p → AwS V6 W g2 (.slice a3 n3 c3) → AwS V6 (((((((W.setCell ⟨p, 0, none⟩ b0).setCell ⟨p, 1, none⟩ b1).setCell ⟨p, 2, none⟩ b2).setCell ⟨p, 3, none⟩ b3).setCell ⟨p, 4, none⟩ b4).setCell ⟨p, 5, none⟩ b5).setCell ⟨p, 6, none⟩ b6) g2 (.slice a3 n3 c3)) := fun b0 b1 b2 b3 b4 b5 b6 hp h => aw_s HBX.out (h.store hp b0 b1 b2 b3 b4 b5 b6)
    have HCL : Hid (∀ (W : World), AwS V6 W g2 (.slice a3 n3 c3) → Calls Try.prog 30 #[.agg #[.int .i64 3, .int .i64 0, .int .i64 1, .int .i64 0, .string ⟨#[]⟩, .string ⟨#[47, 120]⟩, .slice a3 n3 c3], cv 5, cv 5] W fun e w' => ∃ a8 n8 c8, e = .returned (.tuple #[.agg #[.int .i64 3, .int .i64 0, .int .i64 1, .int .i64 0, .string ⟨#[]⟩, .string ⟨#[47, 120]⟩, .slice a8 n8 c8], .int .i64 0]) ∧ MIn w' (fun b => b < V6.heap.size ∨ W.heap.size ≤ b) (.slice a8 n8 c8) Ns.amp ∧ Below W.heap.size W w' ∧ AwS V6 w' g2 (.slice a3 n3 c3)) := fun W h => by
      have hm := HMM.out
      have hP : ∀ b, W.heap.size ≤ b → (fun b => b < V6.heap.size ∨ W.heap.size ≤ b) b := fun b hb => Or.inr hb
      have hc := mcut_any (fun b => b < V6.heap.size ∨ W.heap.size ≤ b) 3 (Ns.at_ 1) (.slice a3 n3 c3) Ns.am2 (Ns.at_ 5) (Ns.at_ 5) W (hm.below h.2.2.2.2.2.2.2) hP (by decide) (by decide)
      rw [show Ns.cut Ns.am2 (Ns.at_ 5) (Ns.at_ 5) = (Ns.amp, 0) from by decide] at hc
      exact hc.mono fun e w' h' => aw_err h h'
    go_region_held_law (fun W' => AwS V6 W' g2 (.slice a3 n3 c3)) ((first | (with_reducible assumption) | (with_reducible exact HSD.out) | (with_reducible exact HSE.out) | (with_reducible exact KA.out _ (by assumption)) | (with_reducible exact KS.out _ _ _ _ _ _ _ (by first | exact Nat.le_refl _ | assumption) (by assumption)))) (first | (go_at_call 31; (with_reducible refine (HAT.out _ _ (by assumption)).mono ?_); rintro e wx ⟨rfl, b, hkeep⟩; (first | (replace hz := Lib.hid ((b.block _ (row_lt hz.out)).trans hz.out)) | (with_reducible have hz := Lib.hid (carry_new b)) | (with_reducible have hz := Lib.hid (carry_drew b)) | skip); clear b; have hsz := hkeep.2.2.2.2.2.2.2.size) | (go_at_call 30; (first | (have hlt := row_lt hz.out) | skip); (with_reducible refine (HCL.out _ (by assumption)).mono ?_); rintro e wx ⟨a8, n8, c8, rfl, hmn, b, hkeep⟩; (first | (have hlt0 := hlt; clear hlt0) | (with_reducible have hlt := carry_lt b) | (with_reducible have hlt := carry_ltd b) | skip); (first | (replace hz := Lib.hid ((b.block _ (row_lt hz.out)).trans hz.out)) | (with_reducible have hz := Lib.hid (carry_new b)) | (with_reducible have hz := Lib.hid (carry_drew b)) | skip); clear b; (first | (have hq := hz; obtain ⟨⟨z0, z1, z2, z3, z4, z5, z6⟩, ⟨y0, y1, y2, y3, y4, y5, y6⟩⟩ := ns_reads hq.out; clear hq) | skip)))
    all_goals
      go_wp2_with fail
      go_meet
      first
        | (with_reducible exact ⟨_, a8, n8, c8, rfl, rfl, Lib.hid hkeep.2.2.2.2.2.2.2.size, Lib.hid (heap_alloc_new _ _), Lib.hid (hmn.mnts.below ((Below.refl _ _).alloc (Nat.le_refl _) _)), Lib.hid (KA.out _ hkeep).2.2.2.2.2.2.2⟩)
        | ((with_reducible refine ⟨_, a8, n8, c8, rfl, rfl, Lib.hid (by first | exact Nat.le_refl _ | assumption), Lib.hid ?_, Lib.hid ?_, Lib.hid ?_⟩); exact (ns_stored _ _ _ _ _ _ _ hz.out).1; exact (hmn.grown (ns_stored _ _ _ _ _ _ _ hz.out).2 (fun h => by rcases h with h | h <;> first | omega | (simp at h; omega) | (simp at h))).mnts; exact (KS.out _ _ _ _ _ _ _ (by first | exact Nat.le_refl _ | assumption) hkeep).2.2.2.2.2.2.2)
  case rest =>
    obtain ⟨g5, a5, n5, c5, rfl, rfl, HG5, HN5, HM5, HBW⟩ := hcut
    generalize wc = V7 at *
    clear HG5
    replace HN1 := Lib.hid ((HBW.out.block _ (row_lt HN1.out)).trans HN1.out)
    replace HN2 := Lib.hid ((HBW.out.block _ (row_lt HN2.out)).trans HN2.out)
    replace HM2 := Lib.hid (HM2.out.below HBW.out)
    replace HB := Lib.hid (bnext HB.out HBW.out)
    clear HBW
    rename (∀ (a : Act) (w : World), Code.wp _ _ _ a w → _) => ax
    exact ax _ _ (aw12 w _ gn g2 a3 n3 c3 g5 a5 n5 c5 HN1 HN2 HM2 HN5 HM5 HB _ _ _ _ _ _ _ _ _ _ _ _ _ _ _ _ _ _ _ _ _ _ _ _ _ _ _ _ _ _ _ _ _ _ _ _ _ _ _ _ _ _ _ _ _ _ _ _ _ _ _ _ _ _ _ _ _ _ _ _ _ _ _ _ _ _ _ _ _ _ _ _ _ _ _ _ _ _ _ _ _ _ _ _ _ _ _ _ _ _ _ _ _ _ _ _ _ _ _ _ _ _ _ _ _ _ _ _ _ _ _ _ _ _ _ _ _ _ _ _ _ _ _ _ _ _ _ _ _ _ _ _ _ _ _ _ _ _ _ _ _ _ _ _ _ _ _ _ _ _ _ _ _ _ _ _ _ _ _ _ _ _ _ _ _ _ _ _ _ _ _ _ _ _ _ (by kernel_rfl))

set_option maxRecDepth 100000 in
set_option maxHeartbeats 100000000 in
theorem aw10 (w V5 : World) (gn : Nat) (g2 : Nat) (a3 : Option Addr) (n3 : Nat) (c3 : Nat) (HN1 : Hid (V5.heap[gn]? = some (.cells #[.int .i64 3, .int .i64 0, .int .i64 1, .int .i64 0, .string ⟨#[]⟩, .string ⟨#[47, 120]⟩, .slice none 0 0] 26 (0, 0)))) (HN2 : Hid (V5.heap[g2]? = some (.cells #[.int .i64 3, .int .i64 0, .int .i64 1, .int .i64 0, .string ⟨#[]⟩, .string ⟨#[47, 120]⟩, .slice a3 n3 c3] 26 (0, 0)))) (HM2 : Hid (Mnts V5 (.slice a3 n3 c3) Ns.am2)) (HB : Hid (Below w.heap.size w V5)) (u0 u3 u4 u5 u6 u8 u9 u10 u11 u12 u13 u14 u15 u16 u17 u18 u19 u20 u21 u22 u23 u24 u25 u26 u27 u28 u29 u30 u31 u32 u33 u34 u35 u36 u37 u38 u39 u40 u41 u42 u43 u44 u45 u46 u47 u48 u49 u50 u51 u52 u53 u54 u55 u56 u57 u58 u59 u60 u61 u62 u63 u64 u65 u66 u67 u68 u69 u70 u71 u72 u73 u74 u75 u76 u77 u78 u79 u80 u81 u82 u83 u84 u85 u86 u87 u88 u89 u90 u91 u92 u93 u94 u95 u96 u97 u98 u99 u100 u101 u102 u103 u104 u105 u106 u107 u108 u109 u110 u111 u112 u113 u114 u115 u116 u117 u118 u119 u120 u121 u122 u123 u124 u125 u126 u127 u128 u129 u130 u131 u132 u133 u134 u135 u136 u137 u138 u139 u140 u141 u142 u143 u144 u145 u146 u147 u148 u149 u150 u151 u152 u153 u154 u155 u156 u157 u158 u159 u160 u161 u162 u163 u164 u165 u166 u167 u168 u169 u170 u171 u172 u173 u174 u175 u176 u177 u178 u179 : Value) (C0 : Code) (hC0 : ((Try.f11.body.map (behind 8)).getD .skip) = C0) :
    Code.wp Try.prog C0 (bodyPost Try.prog Try.f11 fun e w' => e = .returned (.bool true) ∧ Below w.heap.size w w') ⟨(List.toArray (u0 :: .pointer (some ⟨gn, 0, none⟩) :: .pointer (some ⟨g2, 0, none⟩) :: u3 :: u4 :: u5 :: u6 :: .int .i64 7 :: u8 :: u9 :: u10 :: u11 :: u12 :: u13 :: u14 :: u15 :: u16 :: u17 :: u18 :: u19 :: u20 :: u21 :: u22 :: u23 :: u24 :: u25 :: u26 :: u27 :: u28 :: u29 :: u30 :: u31 :: u32 :: u33 :: u34 :: u35 :: u36 :: u37 :: u38 :: u39 :: u40 :: u41 :: u42 :: u43 :: u44 :: u45 :: u46 :: u47 :: u48 :: u49 :: u50 :: u51 :: u52 :: u53 :: u54 :: u55 :: u56 :: u57 :: u58 :: u59 :: u60 :: u61 :: u62 :: u63 :: u64 :: u65 :: u66 :: u67 :: u68 :: u69 :: u70 :: u71 :: u72 :: u73 :: u74 :: u75 :: u76 :: u77 :: u78 :: u79 :: u80 :: u81 :: u82 :: u83 :: u84 :: u85 :: u86 :: u87 :: u88 :: u89 :: u90 :: u91 :: u92 :: u93 :: u94 :: u95 :: u96 :: u97 :: u98 :: u99 :: u100 :: u101 :: u102 :: u103 :: u104 :: u105 :: u106 :: u107 :: u108 :: u109 :: u110 :: u111 :: u112 :: u113 :: u114 :: u115 :: u116 :: u117 :: u118 :: u119 :: u120 :: u121 :: u122 :: u123 :: u124 :: u125 :: u126 :: u127 :: u128 :: u129 :: u130 :: u131 :: u132 :: u133 :: u134 :: u135 :: u136 :: u137 :: u138 :: u139 :: u140 :: u141 :: u142 :: u143 :: u144 :: u145 :: u146 :: u147 :: u148 :: u149 :: u150 :: u151 :: u152 :: u153 :: u154 :: u155 :: u156 :: u157 :: u158 :: u159 :: u160 :: u161 :: u162 :: u163 :: u164 :: u165 :: u166 :: u167 :: u168 :: u169 :: u170 :: u171 :: u172 :: u173 :: u174 :: u175 :: u176 :: u177 :: u178 :: u179 :: [])), []⟩ V5 := by
  subst hC0
  conv => arg 2; whnf
  go_upto_region 10 with fail
  go_cut [9] (fun e w' => e = .int .i64 12 ∧ Hid (Below V5.heap.size V5 w'))
  case first =>
    have HBX := HN2
    have HMM := HM2
    have HAT : Hid (∀ (k : Int) (W : World), AwS V5 W g2 (.slice a3 n3 c3) → Calls Try.prog 31 #[.int .i64 k] W fun e w' => e = .returned (cv k) ∧ Below W.heap.size W w' ∧ AwS V5 w' g2 (.slice a3 n3 c3)) := fun k W h => (at_any k W).mono fun e w' h' => ⟨h'.1, h'.2, h.next h'.2⟩
    have HSD : Hid (AwS V5 V5.drew g2 (.slice a3 n3 c3)) := aw_s HBX.out (below_drew1 (Below.refl _ _))
    have HSE : Hid (AwS V5 (V5.alloc (.cells #[.int .i64 0, .int .i64 0, .int .i64 0, .int .i64 0, .string ⟨#[]⟩, .string ⟨#[]⟩, .slice none 0 0] 26)).drew g2 (.slice a3 n3 c3)) := aw_s HBX.out (below_drew1 ((Below.refl _ _).alloc (Nat.le_refl _) _))
    have KA : Hid (∀ {W : World} (o : Obj), AwS V5 W g2 (.slice a3 n3 c3) → AwS V5 (W.alloc o) g2 (.slice a3 n3 c3)) := fun o h => h.next ((Below.refl _ _).alloc (Nat.le_refl _) o)
    have KS : Hid (∀ {W : World} {p : Nat} (b0 b1 b2 b3 b4 b5 b6 : Value), V5.heap.size ≤ p → AwS V5 W g2 (.slice a3 n3 c3) → AwS V5 (((((((W.setCell ⟨p, 0, none⟩ b0).setCell ⟨p, 1, none⟩ b1).setCell ⟨p, 2, none⟩ b2).setCell ⟨p, 3, none⟩ b3).setCell ⟨p, 4, none⟩ b4).setCell ⟨p, 5, none⟩ b5).setCell ⟨p, 6, none⟩ b6) g2 (.slice a3 n3 c3)) := fun b0 b1 b2 b3 b4 b5 b6 hp h => aw_s HBX.out (h.store hp b0 b1 b2 b3 b4 b5 b6)
    have HCL : Hid (∀ (W : World), AwS V5 W g2 (.slice a3 n3 c3) → Calls Try.prog 28 #[.agg #[.int .i64 3, .int .i64 0, .int .i64 1, .int .i64 0, .string ⟨#[]⟩, .string ⟨#[47, 120]⟩, .slice a3 n3 c3], cv 5, cv 8, .int .i64 3] W fun e w' => ∃ a8 n8 c8, e = .returned (.tuple #[.agg #[.int .i64 3, .int .i64 0, .int .i64 1, .int .i64 0, .string ⟨#[]⟩, .string ⟨#[47, 120]⟩, .slice a8 n8 c8], .int .i64 12]) ∧ MIn w' (fun b => b < V5.heap.size ∨ W.heap.size ≤ b) (.slice a8 n8 c8) Ns.am2 ∧ Below W.heap.size W w' ∧ AwS V5 w' g2 (.slice a3 n3 c3)) := fun W h => by
      have hm := HMM.out
      have hP : ∀ b, W.heap.size ≤ b → (fun b => b < V5.heap.size ∨ W.heap.size ≤ b) b := fun b hb => Or.inr hb
      have hc := madd_any (fun b => b < V5.heap.size ∨ W.heap.size ≤ b) 3 (Ns.at_ 1) (.slice a3 n3 c3) Ns.am2 (Ns.at_ 5) (Ns.at_ 8) 3 W (hm.below h.2.2.2.2.2.2.2) hP (by decide) (by decide) (by decide)
      rw [show Ns.add Ns.am2 (Ns.at_ 5) (Ns.at_ 8) 3 = (Ns.am2, 12) from by decide] at hc
      exact hc.mono fun e w' h' => aw_err h h'
    go_region_held_law (fun W' => AwS V5 W' g2 (.slice a3 n3 c3)) ((first | (with_reducible assumption) | (with_reducible exact HSD.out) | (with_reducible exact HSE.out) | (with_reducible exact KA.out _ (by assumption)) | (with_reducible exact KS.out _ _ _ _ _ _ _ (by first | exact Nat.le_refl _ | assumption) (by assumption)))) (first | (go_at_call 31; (with_reducible refine (HAT.out _ _ (by assumption)).mono ?_); rintro e wx ⟨rfl, b, hkeep⟩; (first | (replace hz := Lib.hid ((b.block _ (row_lt hz.out)).trans hz.out)) | (with_reducible have hz := Lib.hid (carry_new b)) | (with_reducible have hz := Lib.hid (carry_drew b)) | skip); clear b; have hsz := hkeep.2.2.2.2.2.2.2.size) | (go_at_call 28; (first | (have hlt := row_lt hz.out) | skip); (with_reducible refine (HCL.out _ (by assumption)).mono ?_); rintro e wx ⟨a8, n8, c8, rfl, hmn, b, hkeep⟩; (first | (have hlt0 := hlt; clear hlt0) | (with_reducible have hlt := carry_lt b) | (with_reducible have hlt := carry_ltd b) | skip); (first | (replace hz := Lib.hid ((b.block _ (row_lt hz.out)).trans hz.out)) | (with_reducible have hz := Lib.hid (carry_new b)) | (with_reducible have hz := Lib.hid (carry_drew b)) | skip); clear b; (first | (have hq := hz; obtain ⟨⟨z0, z1, z2, z3, z4, z5, z6⟩, ⟨y0, y1, y2, y3, y4, y5, y6⟩⟩ := ns_reads hq.out; clear hq) | skip)))
    all_goals
      go_wp2_with fail
      go_meet
      first | (with_reducible exact ⟨rfl, Lib.hid (KA.out _ hkeep).2.2.2.2.2.2.2⟩) | exact ⟨rfl, Lib.hid (KS.out _ _ _ _ _ _ _ (by first | exact Nat.le_refl _ | assumption) hkeep).2.2.2.2.2.2.2⟩
  case rest =>
    obtain ⟨rfl, HBW⟩ := hcut
    generalize wc = V6 at *
    replace HN1 := Lib.hid ((HBW.out.block _ (row_lt HN1.out)).trans HN1.out)
    replace HN2 := Lib.hid ((HBW.out.block _ (row_lt HN2.out)).trans HN2.out)
    replace HM2 := Lib.hid (HM2.out.below HBW.out)
    replace HB := Lib.hid (bnext HB.out HBW.out)
    clear HBW
    rename (∀ (a : Act) (w : World), Code.wp _ _ _ a w → _) => ax
    exact ax _ _ (aw11 w _ gn g2 a3 n3 c3 HN1 HN2 HM2 HB _ _ _ _ _ _ _ _ _ _ _ _ _ _ _ _ _ _ _ _ _ _ _ _ _ _ _ _ _ _ _ _ _ _ _ _ _ _ _ _ _ _ _ _ _ _ _ _ _ _ _ _ _ _ _ _ _ _ _ _ _ _ _ _ _ _ _ _ _ _ _ _ _ _ _ _ _ _ _ _ _ _ _ _ _ _ _ _ _ _ _ _ _ _ _ _ _ _ _ _ _ _ _ _ _ _ _ _ _ _ _ _ _ _ _ _ _ _ _ _ _ _ _ _ _ _ _ _ _ _ _ _ _ _ _ _ _ _ _ _ _ _ _ _ _ _ _ _ _ _ _ _ _ _ _ _ _ _ _ _ _ _ _ _ _ _ _ _ _ _ _ _ _ _ _ _ _ (by kernel_rfl))

set_option maxRecDepth 100000 in
set_option maxHeartbeats 100000000 in
theorem aw9 (w V4 : World) (gn : Nat) (g2 : Nat) (a3 : Option Addr) (n3 : Nat) (c3 : Nat) (HN1 : Hid (V4.heap[gn]? = some (.cells #[.int .i64 3, .int .i64 0, .int .i64 1, .int .i64 0, .string ⟨#[]⟩, .string ⟨#[47, 120]⟩, .slice none 0 0] 26 (0, 0)))) (HN2 : Hid (V4.heap[g2]? = some (.cells #[.int .i64 3, .int .i64 0, .int .i64 1, .int .i64 0, .string ⟨#[]⟩, .string ⟨#[47, 120]⟩, .slice a3 n3 c3] 26 (0, 0)))) (HM2 : Hid (Mnts V4 (.slice a3 n3 c3) Ns.am2)) (HB : Hid (Below w.heap.size w V4)) (u0 u3 u4 u5 u6 u7 u8 u9 u10 u11 u12 u13 u14 u15 u16 u17 u18 u19 u20 u21 u22 u23 u24 u25 u26 u27 u28 u29 u30 u31 u32 u33 u34 u35 u36 u37 u38 u39 u40 u41 u42 u43 u44 u45 u46 u47 u48 u49 u50 u51 u52 u53 u54 u55 u56 u57 u58 u59 u60 u61 u62 u63 u64 u65 u66 u67 u68 u69 u70 u71 u72 u73 u74 u75 u76 u77 u78 u79 u80 u81 u82 u83 u84 u85 u86 u87 u88 u89 u90 u91 u92 u93 u94 u95 u96 u97 u98 u99 u100 u101 u102 u103 u104 u105 u106 u107 u108 u109 u110 u111 u112 u113 u114 u115 u116 u117 u118 u119 u120 u121 u122 u123 u124 u125 u126 u127 u128 u129 u130 u131 u132 u133 u134 u135 u136 u137 u138 u139 u140 u141 u142 u143 u144 u145 u146 u147 u148 u149 u150 u151 u152 u153 u154 u155 u156 u157 u158 u159 u160 u161 u162 u163 u164 u165 u166 u167 u168 u169 u170 u171 u172 u173 u174 u175 u176 u177 u178 u179 : Value) (K0 : Act → World → Prop) (C0 : Code) (hC0 : ((Try.f11.body.map fun c => ahead (behind 7 c)).getD .skip) = C0)
    (ax : ∀ (a : Act) (w' : World), Code.wp Try.prog ((Try.f11.body.map (behind 8)).getD .skip) (bodyPost Try.prog Try.f11 fun e w' => e = .returned (.bool true) ∧ Below w.heap.size w w') a w' → K0 a w') :
    Code.wp Try.prog C0 (Exit.then K0 (bodyPost Try.prog Try.f11 fun e w' => e = .returned (.bool true) ∧ Below w.heap.size w w')) ⟨(List.toArray (u0 :: .pointer (some ⟨gn, 0, none⟩) :: .pointer (some ⟨g2, 0, none⟩) :: u3 :: u4 :: u5 :: u6 :: u7 :: u8 :: u9 :: u10 :: u11 :: u12 :: u13 :: u14 :: u15 :: u16 :: u17 :: u18 :: u19 :: u20 :: u21 :: u22 :: u23 :: u24 :: u25 :: u26 :: u27 :: u28 :: u29 :: u30 :: u31 :: u32 :: u33 :: u34 :: u35 :: u36 :: u37 :: u38 :: u39 :: u40 :: u41 :: u42 :: u43 :: u44 :: u45 :: u46 :: u47 :: u48 :: u49 :: u50 :: u51 :: u52 :: u53 :: u54 :: u55 :: u56 :: u57 :: u58 :: u59 :: u60 :: u61 :: u62 :: u63 :: u64 :: u65 :: u66 :: u67 :: u68 :: u69 :: u70 :: u71 :: u72 :: u73 :: u74 :: u75 :: u76 :: u77 :: u78 :: u79 :: u80 :: u81 :: u82 :: u83 :: u84 :: u85 :: u86 :: u87 :: u88 :: u89 :: u90 :: u91 :: u92 :: u93 :: u94 :: u95 :: u96 :: u97 :: u98 :: u99 :: u100 :: u101 :: u102 :: u103 :: u104 :: u105 :: u106 :: u107 :: u108 :: u109 :: u110 :: u111 :: u112 :: u113 :: u114 :: u115 :: u116 :: u117 :: u118 :: u119 :: u120 :: u121 :: u122 :: u123 :: u124 :: u125 :: u126 :: u127 :: u128 :: u129 :: u130 :: u131 :: u132 :: u133 :: u134 :: u135 :: u136 :: u137 :: u138 :: u139 :: u140 :: u141 :: u142 :: u143 :: u144 :: u145 :: u146 :: u147 :: u148 :: u149 :: u150 :: u151 :: u152 :: u153 :: u154 :: u155 :: u156 :: u157 :: u158 :: u159 :: u160 :: u161 :: u162 :: u163 :: u164 :: u165 :: u166 :: u167 :: u168 :: u169 :: u170 :: u171 :: u172 :: u173 :: u174 :: u175 :: u176 :: u177 :: u178 :: u179 :: [])), []⟩ V4 := by
  subst hC0
  conv => arg 2; whnf
  go_upto_region 9 with fail
  go_cut [7] (fun e w' => e = .int .i64 7 ∧ Hid (Below V4.heap.size V4 w'))
  case first =>
    have HBX := HN2
    have HMM := HM2
    have HAT : Hid (∀ (k : Int) (W : World), AwS V4 W g2 (.slice a3 n3 c3) → Calls Try.prog 31 #[.int .i64 k] W fun e w' => e = .returned (cv k) ∧ Below W.heap.size W w' ∧ AwS V4 w' g2 (.slice a3 n3 c3)) := fun k W h => (at_any k W).mono fun e w' h' => ⟨h'.1, h'.2, h.next h'.2⟩
    have HSD : Hid (AwS V4 V4.drew g2 (.slice a3 n3 c3)) := aw_s HBX.out (below_drew1 (Below.refl _ _))
    have HSE : Hid (AwS V4 (V4.alloc (.cells #[.int .i64 0, .int .i64 0, .int .i64 0, .int .i64 0, .string ⟨#[]⟩, .string ⟨#[]⟩, .slice none 0 0] 26)).drew g2 (.slice a3 n3 c3)) := aw_s HBX.out (below_drew1 ((Below.refl _ _).alloc (Nat.le_refl _) _))
    have KA : Hid (∀ {W : World} (o : Obj), AwS V4 W g2 (.slice a3 n3 c3) → AwS V4 (W.alloc o) g2 (.slice a3 n3 c3)) := fun o h => h.next ((Below.refl _ _).alloc (Nat.le_refl _) o)
    have KS : Hid (∀ {W : World} {p : Nat} (b0 b1 b2 b3 b4 b5 b6 : Value), V4.heap.size ≤ p → AwS V4 W g2 (.slice a3 n3 c3) → AwS V4 (((((((W.setCell ⟨p, 0, none⟩ b0).setCell ⟨p, 1, none⟩ b1).setCell ⟨p, 2, none⟩ b2).setCell ⟨p, 3, none⟩ b3).setCell ⟨p, 4, none⟩ b4).setCell ⟨p, 5, none⟩ b5).setCell ⟨p, 6, none⟩ b6) g2 (.slice a3 n3 c3)) := fun b0 b1 b2 b3 b4 b5 b6 hp h => aw_s HBX.out (h.store hp b0 b1 b2 b3 b4 b5 b6)
    have HCL : Hid (∀ (W : World), AwS V4 W g2 (.slice a3 n3 c3) → Calls Try.prog 28 #[.agg #[.int .i64 3, .int .i64 0, .int .i64 1, .int .i64 0, .string ⟨#[]⟩, .string ⟨#[47, 120]⟩, .slice a3 n3 c3], cv 5, cv 6, .int .i64 1] W fun e w' => ∃ a8 n8 c8, e = .returned (.tuple #[.agg #[.int .i64 3, .int .i64 0, .int .i64 1, .int .i64 0, .string ⟨#[]⟩, .string ⟨#[47, 120]⟩, .slice a8 n8 c8], .int .i64 7]) ∧ MIn w' (fun b => b < V4.heap.size ∨ W.heap.size ≤ b) (.slice a8 n8 c8) Ns.am2 ∧ Below W.heap.size W w' ∧ AwS V4 w' g2 (.slice a3 n3 c3)) := fun W h => by
      have hm := HMM.out
      have hP : ∀ b, W.heap.size ≤ b → (fun b => b < V4.heap.size ∨ W.heap.size ≤ b) b := fun b hb => Or.inr hb
      have hc := madd_any (fun b => b < V4.heap.size ∨ W.heap.size ≤ b) 3 (Ns.at_ 1) (.slice a3 n3 c3) Ns.am2 (Ns.at_ 5) (Ns.at_ 6) 1 W (hm.below h.2.2.2.2.2.2.2) hP (by decide) (by decide) (by decide)
      rw [show Ns.add Ns.am2 (Ns.at_ 5) (Ns.at_ 6) 1 = (Ns.am2, 7) from by decide] at hc
      exact hc.mono fun e w' h' => aw_err h h'
    go_region_held_law (fun W' => AwS V4 W' g2 (.slice a3 n3 c3)) ((first | (with_reducible assumption) | (with_reducible exact HSD.out) | (with_reducible exact HSE.out) | (with_reducible exact KA.out _ (by assumption)) | (with_reducible exact KS.out _ _ _ _ _ _ _ (by first | exact Nat.le_refl _ | assumption) (by assumption)))) (first | (go_at_call 31; (with_reducible refine (HAT.out _ _ (by assumption)).mono ?_); rintro e wx ⟨rfl, b, hkeep⟩; (first | (replace hz := Lib.hid ((b.block _ (row_lt hz.out)).trans hz.out)) | (with_reducible have hz := Lib.hid (carry_new b)) | (with_reducible have hz := Lib.hid (carry_drew b)) | skip); clear b; have hsz := hkeep.2.2.2.2.2.2.2.size) | (go_at_call 28; (first | (have hlt := row_lt hz.out) | skip); (with_reducible refine (HCL.out _ (by assumption)).mono ?_); rintro e wx ⟨a8, n8, c8, rfl, hmn, b, hkeep⟩; (first | (have hlt0 := hlt; clear hlt0) | (with_reducible have hlt := carry_lt b) | (with_reducible have hlt := carry_ltd b) | skip); (first | (replace hz := Lib.hid ((b.block _ (row_lt hz.out)).trans hz.out)) | (with_reducible have hz := Lib.hid (carry_new b)) | (with_reducible have hz := Lib.hid (carry_drew b)) | skip); clear b; (first | (have hq := hz; obtain ⟨⟨z0, z1, z2, z3, z4, z5, z6⟩, ⟨y0, y1, y2, y3, y4, y5, y6⟩⟩ := ns_reads hq.out; clear hq) | skip)))
    all_goals
      go_wp2_with fail
      go_meet
      first | (with_reducible exact ⟨rfl, Lib.hid (KA.out _ hkeep).2.2.2.2.2.2.2⟩) | exact ⟨rfl, Lib.hid (KS.out _ _ _ _ _ _ _ (by first | exact Nat.le_refl _ | assumption) hkeep).2.2.2.2.2.2.2⟩
  case rest =>
    obtain ⟨rfl, HBW⟩ := hcut
    generalize wc = V5 at *
    replace HN1 := Lib.hid ((HBW.out.block _ (row_lt HN1.out)).trans HN1.out)
    replace HN2 := Lib.hid ((HBW.out.block _ (row_lt HN2.out)).trans HN2.out)
    replace HM2 := Lib.hid (HM2.out.below HBW.out)
    replace HB := Lib.hid (bnext HB.out HBW.out)
    clear HBW
    exact ax _ _ (aw10 w _ gn g2 a3 n3 c3 HN1 HN2 HM2 HB _ _ _ _ _ _ _ _ _ _ _ _ _ _ _ _ _ _ _ _ _ _ _ _ _ _ _ _ _ _ _ _ _ _ _ _ _ _ _ _ _ _ _ _ _ _ _ _ _ _ _ _ _ _ _ _ _ _ _ _ _ _ _ _ _ _ _ _ _ _ _ _ _ _ _ _ _ _ _ _ _ _ _ _ _ _ _ _ _ _ _ _ _ _ _ _ _ _ _ _ _ _ _ _ _ _ _ _ _ _ _ _ _ _ _ _ _ _ _ _ _ _ _ _ _ _ _ _ _ _ _ _ _ _ _ _ _ _ _ _ _ _ _ _ _ _ _ _ _ _ _ _ _ _ _ _ _ _ _ _ _ _ _ _ _ _ _ _ _ _ _ _ _ _ _ _ _ _ (by kernel_rfl))

set_option maxRecDepth 100000 in
set_option maxHeartbeats 100000000 in
theorem aw6 (w V3 : World) (gn : Nat) (g2 : Nat) (a3 : Option Addr) (n3 : Nat) (c3 : Nat) (HN1 : Hid (V3.heap[gn]? = some (.cells #[.int .i64 3, .int .i64 0, .int .i64 1, .int .i64 0, .string ⟨#[]⟩, .string ⟨#[47, 120]⟩, .slice none 0 0] 26 (0, 0)))) (HN2 : Hid (V3.heap[g2]? = some (.cells #[.int .i64 3, .int .i64 0, .int .i64 1, .int .i64 0, .string ⟨#[]⟩, .string ⟨#[47, 120]⟩, .slice a3 n3 c3] 26 (0, 0)))) (HM2 : Hid (Mnts V3 (.slice a3 n3 c3) Ns.am2)) (HB : Hid (Below w.heap.size w V3)) (u0 u4 u5 u6 u7 u8 u9 u10 u11 u12 u13 u14 u15 u16 u17 u18 u19 u20 u21 u22 u23 u24 u25 u26 u27 u28 u29 u30 u31 u32 u33 u34 u35 u36 u37 u38 u39 u40 u41 u42 u43 u44 u45 u46 u47 u48 u49 u50 u51 u52 u53 u54 u55 u56 u57 u58 u59 u60 u61 u62 u63 u64 u65 u66 u67 u68 u69 u70 u71 u72 u73 u74 u75 u76 u77 u78 u79 u80 u81 u82 u83 u84 u85 u86 u87 u88 u89 u90 u91 u92 u93 u94 u95 u96 u97 u98 u99 u100 u101 u102 u103 u104 u105 u106 u107 u108 u109 u110 u111 u112 u113 u114 u115 u116 u117 u118 u119 u120 u121 u122 u123 u124 u125 u126 u127 u128 u129 u130 u131 u132 u133 u134 u135 u136 u137 u138 u139 u140 u141 u142 u143 u144 u145 u146 u147 u148 u149 u150 u151 u152 u153 u154 u155 u156 u157 u158 u159 u160 u161 u162 u163 u164 u165 u166 u167 u168 u169 u170 u171 u172 u173 u174 u175 u176 u177 u178 u179 : Value) (C0 : Code) (hC0 : ((Try.f11.body.map (behind 5)).getD .skip) = C0) :
    Code.wp Try.prog C0 (bodyPost Try.prog Try.f11 fun e w' => e = .returned (.bool true) ∧ Below w.heap.size w w') ⟨(List.toArray (u0 :: .pointer (some ⟨gn, 0, none⟩) :: .pointer (some ⟨g2, 0, none⟩) :: .int .i64 0 :: u4 :: u5 :: u6 :: u7 :: u8 :: u9 :: u10 :: u11 :: u12 :: u13 :: u14 :: u15 :: u16 :: u17 :: u18 :: u19 :: u20 :: u21 :: u22 :: u23 :: u24 :: u25 :: u26 :: u27 :: u28 :: u29 :: u30 :: u31 :: u32 :: u33 :: u34 :: u35 :: u36 :: u37 :: u38 :: u39 :: u40 :: u41 :: u42 :: u43 :: u44 :: u45 :: u46 :: u47 :: u48 :: u49 :: u50 :: u51 :: u52 :: u53 :: u54 :: u55 :: u56 :: u57 :: u58 :: u59 :: u60 :: u61 :: u62 :: u63 :: u64 :: u65 :: u66 :: u67 :: u68 :: u69 :: u70 :: u71 :: u72 :: u73 :: u74 :: u75 :: u76 :: u77 :: u78 :: u79 :: u80 :: u81 :: u82 :: u83 :: u84 :: u85 :: u86 :: u87 :: u88 :: u89 :: u90 :: u91 :: u92 :: u93 :: u94 :: u95 :: u96 :: u97 :: u98 :: u99 :: u100 :: u101 :: u102 :: u103 :: u104 :: u105 :: u106 :: u107 :: u108 :: u109 :: u110 :: u111 :: u112 :: u113 :: u114 :: u115 :: u116 :: u117 :: u118 :: u119 :: u120 :: u121 :: u122 :: u123 :: u124 :: u125 :: u126 :: u127 :: u128 :: u129 :: u130 :: u131 :: u132 :: u133 :: u134 :: u135 :: u136 :: u137 :: u138 :: u139 :: u140 :: u141 :: u142 :: u143 :: u144 :: u145 :: u146 :: u147 :: u148 :: u149 :: u150 :: u151 :: u152 :: u153 :: u154 :: u155 :: u156 :: u157 :: u158 :: u159 :: u160 :: u161 :: u162 :: u163 :: u164 :: u165 :: u166 :: u167 :: u168 :: u169 :: u170 :: u171 :: u172 :: u173 :: u174 :: u175 :: u176 :: u177 :: u178 :: u179 :: [])), []⟩ V3 := by
  subst hC0
  conv => arg 2; whnf
  go_upto_region 6 with fail
  go_cut [4, 5] (fun u o w' => ∃ a n c, u = .slice a n c ∧ o = .bool true ∧ Hid (Tgts w' (.slice a n c) [⟨Ns.at_ 7, true⟩, ⟨Ns.at_ 5, false⟩, ⟨Ns.at_ 6, false⟩]) ∧ Hid (Below V3.heap.size V3 w'))
  case first =>
    have HBX := HN2
    have HMM := HM2
    have HAT : Hid (∀ (k : Int) (W : World), AwS V3 W g2 (.slice a3 n3 c3) → Calls Try.prog 31 #[.int .i64 k] W fun e w' => e = .returned (cv k) ∧ Below W.heap.size W w' ∧ AwS V3 w' g2 (.slice a3 n3 c3)) := fun k W h => (at_any k W).mono fun e w' h' => ⟨h'.1, h'.2, h.next h'.2⟩
    have HSD : Hid (AwS V3 V3.drew g2 (.slice a3 n3 c3)) := aw_s HBX.out (below_drew1 (Below.refl _ _))
    have HCL : Hid (∀ (W : World), AwS V3 W g2 (.slice a3 n3 c3) → Calls Try.prog 23 #[.agg #[.int .i64 3, .int .i64 0, .int .i64 1, .int .i64 0, .string ⟨#[]⟩, .string ⟨#[47, 120]⟩, .slice a3 n3 c3], cv 5] W fun e w' => ∃ a8 n8 c8, e = .returned (.tuple #[.slice a8 n8 c8, .bool true]) ∧ Tgts w' (.slice a8 n8 c8) [⟨Ns.at_ 7, true⟩, ⟨Ns.at_ 5, false⟩, ⟨Ns.at_ 6, false⟩] ∧ AwS V3 w' g2 (.slice a3 n3 c3)) := fun W h => by
      have hm := HMM.out
      have hc := munion_any 3 (Ns.at_ 1) (.slice a3 n3 c3) Ns.am2 (Ns.at_ 5) W (hm.below h.2.2.2.2.2.2.2) (by decide) (by decide)
      rw [show Ns.union Ns.am2 (Ns.at_ 5) = ([⟨Ns.at_ 7, true⟩, ⟨Ns.at_ 5, false⟩, ⟨Ns.at_ 6, false⟩], true) from by decide] at hc
      exact hc.mono fun e w' h' => by
        obtain ⟨a, n, c, h1, h2, h3⟩ := h'
        exact ⟨a, n, c, h1, h2, h.next h3⟩
    go_region_held_law (fun W' => AwS V3 W' g2 (.slice a3 n3 c3)) (first | (with_reducible assumption) | (with_reducible exact HSD.out)) (first | (go_at_call 31; (with_reducible refine (HAT.out _ _ (by assumption)).mono ?_); rintro e wx ⟨rfl, b, hkeep⟩; clear b) | (go_at_call 23; (with_reducible refine (HCL.out _ (by assumption)).mono ?_); rintro e wx ⟨a8, n8, c8, rfl, hmn, hkeep⟩))
    all_goals
      go_wp2_with fail
      go_meet
      exact ⟨a8, n8, c8, rfl, rfl, Lib.hid hmn, Lib.hid hkeep.2.2.2.2.2.2.2⟩
  case rest =>
    obtain ⟨a4, n4, c4, rfl, rfl, HT4, HBW⟩ := hcut
    generalize wc = V4 at *
    replace HN1 := Lib.hid ((HBW.out.block _ (row_lt HN1.out)).trans HN1.out)
    replace HN2 := Lib.hid ((HBW.out.block _ (row_lt HN2.out)).trans HN2.out)
    replace HM2 := Lib.hid (HM2.out.below HBW.out)
    replace HB := Lib.hid (bnext HB.out HBW.out)
    clear HBW
    obtain ⟨rfl, htc⟩ := HT4.out.at
    obtain ⟨tb, to', rfl, hlt, ⟨u00, u01, u02, u03, u04⟩, u05⟩ := htc 0 (by decide)
    obtain ⟨tb1, to1, ht1, hlt1, ⟨u10, u11, u12, u13, u14⟩, u15⟩ := htc 1 (by decide)
    cases ht1
    obtain ⟨tb2, to2, ht2, hlt2, ⟨u20, u21, u22, u23, u24⟩, u25⟩ := htc 2 (by decide)
    cases ht2
    clear hlt1 hlt2 htc HT4
    simp only [List.length_cons, List.length_nil, List.getElem_cons_zero, List.getElem_cons_succ, Ns.at_, Nat.zero_mul, Nat.add_zero, Nat.zero_add, Nat.one_mul] at u01 u05 u11 u15 u21 u25 ⊢
    go_upto_region 9 with fail
    clear u00 u01 u02 u03 u04 u05 u10 u11 u12 u13 u14 u15 u20 u21 u22 u23 u24 u25 hlt
    rename (∀ (a : Act) (w : World), Code.wp _ _ _ a w → _) => ax
    exact aw9 w _ gn g2 a3 n3 c3 HN1 HN2 HM2 HB _ _ _ _ _ _ _ _ _ _ _ _ _ _ _ _ _ _ _ _ _ _ _ _ _ _ _ _ _ _ _ _ _ _ _ _ _ _ _ _ _ _ _ _ _ _ _ _ _ _ _ _ _ _ _ _ _ _ _ _ _ _ _ _ _ _ _ _ _ _ _ _ _ _ _ _ _ _ _ _ _ _ _ _ _ _ _ _ _ _ _ _ _ _ _ _ _ _ _ _ _ _ _ _ _ _ _ _ _ _ _ _ _ _ _ _ _ _ _ _ _ _ _ _ _ _ _ _ _ _ _ _ _ _ _ _ _ _ _ _ _ _ _ _ _ _ _ _ _ _ _ _ _ _ _ _ _ _ _ _ _ _ _ _ _ _ _ _ _ _ _ _ _ _ _ _ _ _ _ _ (by kernel_rfl) ax

set_option maxRecDepth 100000 in
set_option maxHeartbeats 100000000 in
theorem aw5 (w V2 : World) (gn : Nat) (g2 : Nat) (a2 : Option Addr) (n2 : Nat) (c2 : Nat) (HNE : Hid (g2 ≠ gn)) (HG2 : Hid (w.heap.size ≤ g2)) (HN1 : Hid (V2.heap[gn]? = some (.cells #[.int .i64 3, .int .i64 0, .int .i64 1, .int .i64 0, .string ⟨#[]⟩, .string ⟨#[47, 120]⟩, .slice none 0 0] 26 (0, 0)))) (HN2 : Hid (V2.heap[g2]? = some (.cells #[.int .i64 3, .int .i64 0, .int .i64 1, .int .i64 0, .string ⟨#[]⟩, .string ⟨#[47, 120]⟩, .slice a2 n2 c2] 26 (0, 0)))) (HM2 : Hid (Mnts V2 (.slice a2 n2 c2) Ns.am1)) (HB : Hid (Below w.heap.size w V2)) (u0 u3 u4 u5 u6 u7 u8 u9 u10 u11 u12 u13 u14 u15 u16 u17 u18 u19 u20 u21 u22 u23 u24 u25 u26 u27 u28 u29 u30 u31 u32 u33 u34 u35 u36 u37 u38 u39 u40 u41 u42 u43 u44 u45 u46 u47 u48 u49 u50 u51 u52 u53 u54 u55 u56 u57 u58 u59 u60 u61 u62 u63 u64 u65 u66 u67 u68 u69 u70 u71 u72 u73 u74 u75 u76 u77 u78 u79 u80 u81 u82 u83 u84 u85 u86 u87 u88 u89 u90 u91 u92 u93 u94 u95 u96 u97 u98 u99 u100 u101 u102 u103 u104 u105 u106 u107 u108 u109 u110 u111 u112 u113 u114 u115 u116 u117 u118 u119 u120 u121 u122 u123 u124 u125 u126 u127 u128 u129 u130 u131 u132 u133 u134 u135 u136 u137 u138 u139 u140 u141 u142 u143 u144 u145 u146 u147 u148 u149 u150 u151 u152 u153 u154 u155 u156 u157 u158 u159 u160 u161 u162 u163 u164 u165 u166 u167 u168 u169 u170 u171 u172 u173 u174 u175 u176 u177 u178 u179 : Value) (K0 : Act → World → Prop) (C0 : Code) (hC0 : ((Try.f11.body.map fun c => ahead (behind 4 c)).getD .skip) = C0)
    (ax : ∀ (a : Act) (w' : World), Code.wp Try.prog ((Try.f11.body.map (behind 5)).getD .skip) (bodyPost Try.prog Try.f11 fun e w' => e = .returned (.bool true) ∧ Below w.heap.size w w') a w' → K0 a w') :
    Code.wp Try.prog C0 (Exit.then K0 (bodyPost Try.prog Try.f11 fun e w' => e = .returned (.bool true) ∧ Below w.heap.size w w')) ⟨(List.toArray (u0 :: .pointer (some ⟨gn, 0, none⟩) :: .pointer (some ⟨g2, 0, none⟩) :: u3 :: u4 :: u5 :: u6 :: u7 :: u8 :: u9 :: u10 :: u11 :: u12 :: u13 :: u14 :: u15 :: u16 :: u17 :: u18 :: u19 :: u20 :: u21 :: u22 :: u23 :: u24 :: u25 :: u26 :: u27 :: u28 :: u29 :: u30 :: u31 :: u32 :: u33 :: u34 :: u35 :: u36 :: u37 :: u38 :: u39 :: u40 :: u41 :: u42 :: u43 :: u44 :: u45 :: u46 :: u47 :: u48 :: u49 :: u50 :: u51 :: u52 :: u53 :: u54 :: u55 :: u56 :: u57 :: u58 :: u59 :: u60 :: u61 :: u62 :: u63 :: u64 :: u65 :: u66 :: u67 :: u68 :: u69 :: u70 :: u71 :: u72 :: u73 :: u74 :: u75 :: u76 :: u77 :: u78 :: u79 :: u80 :: u81 :: u82 :: u83 :: u84 :: u85 :: u86 :: u87 :: u88 :: u89 :: u90 :: u91 :: u92 :: u93 :: u94 :: u95 :: u96 :: u97 :: u98 :: u99 :: u100 :: u101 :: u102 :: u103 :: u104 :: u105 :: u106 :: u107 :: u108 :: u109 :: u110 :: u111 :: u112 :: u113 :: u114 :: u115 :: u116 :: u117 :: u118 :: u119 :: u120 :: u121 :: u122 :: u123 :: u124 :: u125 :: u126 :: u127 :: u128 :: u129 :: u130 :: u131 :: u132 :: u133 :: u134 :: u135 :: u136 :: u137 :: u138 :: u139 :: u140 :: u141 :: u142 :: u143 :: u144 :: u145 :: u146 :: u147 :: u148 :: u149 :: u150 :: u151 :: u152 :: u153 :: u154 :: u155 :: u156 :: u157 :: u158 :: u159 :: u160 :: u161 :: u162 :: u163 :: u164 :: u165 :: u166 :: u167 :: u168 :: u169 :: u170 :: u171 :: u172 :: u173 :: u174 :: u175 :: u176 :: u177 :: u178 :: u179 :: [])), []⟩ V2 := by
  subst hC0
  conv => arg 2; whnf
  go_upto_region 5 with fail
  go_cut [3] (fun e w' => ∃ a n c, e = .int .i64 0 ∧ Hid (w'.heap[g2]? = some (.cells #[.int .i64 3, .int .i64 0, .int .i64 1, .int .i64 0, .string ⟨#[]⟩, .string ⟨#[47, 120]⟩, .slice a n c] 26 (0, 0))) ∧ Hid (Mnts w' (.slice a n c) Ns.am2) ∧ Hid (∀ b, b < V2.heap.size → b ≠ g2 → w'.heap[b]? = V2.heap[b]?) ∧ Hid (Below w.heap.size w w'))
  case first =>
    have HBX := HN2
    have HMM := HM2
    have HAT : Hid (∀ (k : Int) (W : World), AwS V2 W g2 (.slice a2 n2 c2) → Calls Try.prog 31 #[.int .i64 k] W fun e w' => e = .returned (cv k) ∧ Below W.heap.size W w' ∧ AwS V2 w' g2 (.slice a2 n2 c2)) := fun k W h => (at_any k W).mono fun e w' h' => ⟨h'.1, h'.2, h.next h'.2⟩
    have HSD : Hid (AwS V2 V2.drew g2 (.slice a2 n2 c2)) := aw_s HBX.out (below_drew1 (Below.refl _ _))
    have HCL : Hid (∀ (W : World), AwS V2 W g2 (.slice a2 n2 c2) → Calls Try.prog 28 #[.agg #[.int .i64 3, .int .i64 0, .int .i64 1, .int .i64 0, .string ⟨#[]⟩, .string ⟨#[47, 120]⟩, .slice a2 n2 c2], cv 5, cv 7, .int .i64 5] W fun e w' => ∃ a8 n8 c8, e = .returned (.tuple #[.agg #[.int .i64 3, .int .i64 0, .int .i64 1, .int .i64 0, .string ⟨#[]⟩, .string ⟨#[47, 120]⟩, .slice a8 n8 c8], .int .i64 0]) ∧ MIn w' (fun b => V2.heap.size ≤ b) (.slice a8 n8 c8) Ns.am2 ∧ Below W.heap.size W w' ∧ AwS V2 w' g2 (.slice a2 n2 c2)) := fun W h => by
      have hm := HMM.out
      have hP : ∀ b, W.heap.size ≤ b → (fun b => V2.heap.size ≤ b) b := fun b hb => (by have := h.2.2.2.2.2.2.2.size; omega)
      have hc := madd_any (fun b => V2.heap.size ≤ b) 3 (Ns.at_ 1) (.slice a2 n2 c2) Ns.am1 (Ns.at_ 5) (Ns.at_ 7) 5 W (hm.below h.2.2.2.2.2.2.2) hP (by decide) (by decide) (by decide)
      rw [show Ns.add Ns.am1 (Ns.at_ 5) (Ns.at_ 7) 5 = (Ns.am2, 0) from by decide] at hc
      exact hc.mono fun e w' h' => aw_err h h'
    obtain ⟨⟨r0, r1, r2, r3, r4, r5, r6⟩, ⟨f0, f1, f2, f3, f4, f5, f6⟩⟩ := ns_reads HBX.out
    go_region_law (go_simp; first | (go_at_call 31; (with_reducible refine (HAT.out _ _ (by first | assumption | exact HSD.out)).mono ?_); rintro e wx ⟨rfl, b, hkeep⟩; clear b; have hq := (hkeep.2.2.2.2.2.2.2.block _ (row_lt HBX.out)).trans HBX.out; obtain ⟨⟨z0, z1, z2, z3, z4, z5, z6⟩, _⟩ := ns_reads hq; clear hq) | (go_at_call 28; (with_reducible refine (HCL.out _ (by assumption)).mono ?_); rintro e wx ⟨a8, n8, c8, rfl, hmn, b, hkeep⟩; clear b; have hq := (hkeep.2.2.2.2.2.2.2.block _ (row_lt HBX.out)).trans HBX.out; obtain ⟨⟨z0, z1, z2, z3, z4, z5, z6⟩, ⟨y0, y1, y2, y3, y4, y5, y6⟩⟩ := ns_reads hq; replace hq := Lib.hid hq))
    all_goals
      go_wp2_with fail
      go_meet
      refine ⟨a8, n8, c8, rfl, Lib.hid (ns_stored _ _ _ _ _ _ _ hq.out).1, Lib.hid (hmn.grown (ns_stored _ _ _ _ _ _ _ hq.out).2 (by have := row_lt HBX.out; omega)).mnts, Lib.hid (fun b hb hne => ((ns_stored _ _ _ _ _ _ _ hq.out).2.block b (Nat.lt_of_lt_of_le hb hkeep.2.2.2.2.2.2.2.size) (fun e => hne (Option.some.inj e))).trans (hkeep.2.2.2.2.2.2.2.block b hb)), Lib.hid (grown_below (bnext HB.out hkeep.2.2.2.2.2.2.2) (ns_stored _ _ _ _ _ _ _ hq.out).2 HG2.out)⟩
  case rest =>
    obtain ⟨a3, n3, c3, rfl, HN3, HM3, HFR, HB3⟩ := hcut
    generalize wc = V3 at *
    replace HN1 := Lib.hid ((HFR.out _ (row_lt HN1.out) (fun e => HNE.out e.symm)).trans HN1.out)
    replace HN2 := HN3
    replace HM2 := HM3
    replace HB := HB3
    clear HN3 HM3 HB3 HFR
    exact ax _ _ (aw6 w _ gn g2 a3 n3 c3 HN1 HN2 HM2 HB _ _ _ _ _ _ _ _ _ _ _ _ _ _ _ _ _ _ _ _ _ _ _ _ _ _ _ _ _ _ _ _ _ _ _ _ _ _ _ _ _ _ _ _ _ _ _ _ _ _ _ _ _ _ _ _ _ _ _ _ _ _ _ _ _ _ _ _ _ _ _ _ _ _ _ _ _ _ _ _ _ _ _ _ _ _ _ _ _ _ _ _ _ _ _ _ _ _ _ _ _ _ _ _ _ _ _ _ _ _ _ _ _ _ _ _ _ _ _ _ _ _ _ _ _ _ _ _ _ _ _ _ _ _ _ _ _ _ _ _ _ _ _ _ _ _ _ _ _ _ _ _ _ _ _ _ _ _ _ _ _ _ _ _ _ _ _ _ _ _ _ _ _ _ _ _ _ _ (by kernel_rfl))

set_option maxRecDepth 100000 in
set_option maxHeartbeats 100000000 in
theorem awake_any (w : World) :
    Calls Try.prog 11 #[] w fun e w' => e = .returned (.bool true) ∧ Below w.heap.size w w' := by
  have HA1 := Lib.hid (fun W => show Calls Try.prog 31 #[.int .i64 1] W fun e w' => e = .returned (cv 1) ∧ Below W.heap.size W w' from at_any 1 W)
  have HNW := Lib.hid (fun W => show Calls Try.prog 15 #[.int .i64 3, cv 1] W fun e w' => e = .returned (.agg #[.int .i64 3, .int .i64 0, .int .i64 1, .int .i64 0, .string ⟨#[]⟩, .string ⟨#[47, 120]⟩, .slice none 0 0]) ∧ Below W.heap.size W w' from mnew_any 3 (Ns.at_ 1) W)
  go_enter Try.func11, Try.ntmps11
  go_wp2_with fail
  (with_reducible refine (HA1.out _).mono ?_); rintro e w1 ⟨rfl, b1⟩
  go_wp2_with fail
  (with_reducible refine (HNW.out _).mono ?_); rintro e w2 ⟨rfl, b2⟩
  have HB2 := Lib.hid (bnext b1 b2)
  clear b1 b2
  go_upto_region 2 with fail
  have HN1 := Lib.hid (heap_alloc_new w2 (.cells #[.int .i64 3, .int .i64 0, .int .i64 1, .int .i64 0, .string ⟨#[]⟩, .string ⟨#[47, 120]⟩, .slice none 0 0] 26))
  have HB := Lib.hid (HB2.out.alloc HB2.out.size (.cells #[.int .i64 3, .int .i64 0, .int .i64 1, .int .i64 0, .string ⟨#[]⟩, .string ⟨#[47, 120]⟩, .slice none 0 0] 26))
  have HGN := Lib.hid HB2.out.size
  clear HB2
  generalize w2.alloc _ = V0 at *
  generalize w2.heap.size = gn at *

  go_upto_region 2 with fail
  go_cut [2, 3] (fun q e w' => ∃ gz a n c, q = .pointer (some ⟨gz, 0, none⟩) ∧ e = .int .i64 0 ∧ Hid (V0.heap.size ≤ gz) ∧ Hid (w'.heap[gz]? = some (.cells #[.int .i64 3, .int .i64 0, .int .i64 1, .int .i64 0, .string ⟨#[]⟩, .string ⟨#[47, 120]⟩, .slice a n c] 26 (0, 0))) ∧ Hid (Mnts w' (.slice a n c) Ns.am1) ∧ Hid (Below V0.heap.size V0 w'))
  case first =>
    have HBX := HN1
    have HMM := Lib.hid (mnts_nil V0)
    have HAT : Hid (∀ (k : Int) (W : World), AwS V0 W gn (.slice none 0 0) → Calls Try.prog 31 #[.int .i64 k] W fun e w' => e = .returned (cv k) ∧ Below W.heap.size W w' ∧ AwS V0 w' gn (.slice none 0 0)) := fun k W h => (at_any k W).mono fun e w' h' => ⟨h'.1, h'.2, h.next h'.2⟩
    have HSD : Hid (AwS V0 V0.drew gn (.slice none 0 0)) := aw_s HBX.out (below_drew1 (Below.refl _ _))
    have HSE : Hid (AwS V0 (V0.alloc (.cells #[.int .i64 0, .int .i64 0, .int .i64 0, .int .i64 0, .string ⟨#[]⟩, .string ⟨#[]⟩, .slice none 0 0] 26)).drew gn (.slice none 0 0)) := aw_s HBX.out (below_drew1 ((Below.refl _ _).alloc (Nat.le_refl _) _))
    have KA : Hid (∀ {W : World} (o : Obj), AwS V0 W gn (.slice none 0 0) → AwS V0 (W.alloc o) gn (.slice none 0 0)) := fun o h => h.next ((Below.refl _ _).alloc (Nat.le_refl _) o)
    have KS : Hid (∀ {W : World} {p : Nat} (b0 b1 b2 b3 b4 b5 b6 : Value), V0.heap.size ≤ p → AwS V0 W gn (.slice none 0 0) → AwS V0 (((((((W.setCell ⟨p, 0, none⟩ b0).setCell ⟨p, 1, none⟩ b1).setCell ⟨p, 2, none⟩ b2).setCell ⟨p, 3, none⟩ b3).setCell ⟨p, 4, none⟩ b4).setCell ⟨p, 5, none⟩ b5).setCell ⟨p, 6, none⟩ b6) gn (.slice none 0 0)) := fun b0 b1 b2 b3 b4 b5 b6 hp h => aw_s HBX.out (h.store hp b0 b1 b2 b3 b4 b5 b6)
    have HCL : Hid (∀ (W : World), AwS V0 W gn (.slice none 0 0) → Calls Try.prog 28 #[.agg #[.int .i64 3, .int .i64 0, .int .i64 1, .int .i64 0, .string ⟨#[]⟩, .string ⟨#[47, 120]⟩, .slice none 0 0], cv 5, cv 6, .int .i64 2] W fun e w' => ∃ a8 n8 c8, e = .returned (.tuple #[.agg #[.int .i64 3, .int .i64 0, .int .i64 1, .int .i64 0, .string ⟨#[]⟩, .string ⟨#[47, 120]⟩, .slice a8 n8 c8], .int .i64 0]) ∧ MIn w' (fun b => b < V0.heap.size ∨ W.heap.size ≤ b) (.slice a8 n8 c8) Ns.am1 ∧ Below W.heap.size W w' ∧ AwS V0 w' gn (.slice none 0 0)) := fun W h => by
      have hm := HMM.out
      have hP : ∀ b, W.heap.size ≤ b → (fun b => b < V0.heap.size ∨ W.heap.size ≤ b) b := fun b hb => Or.inr hb
      have hc := madd_any (fun b => b < V0.heap.size ∨ W.heap.size ≤ b) 3 (Ns.at_ 1) (.slice none 0 0) [] (Ns.at_ 5) (Ns.at_ 6) 2 W (hm.below h.2.2.2.2.2.2.2) hP (by decide) (by decide) (by decide)
      rw [show Ns.add [] (Ns.at_ 5) (Ns.at_ 6) 2 = (Ns.am1, 0) from by decide] at hc
      exact hc.mono fun e w' h' => aw_err h h'
    go_region_held_law (fun W' => AwS V0 W' gn (.slice none 0 0)) ((first | (with_reducible assumption) | (with_reducible exact HSD.out) | (with_reducible exact HSE.out) | (with_reducible exact KA.out _ (by assumption)) | (with_reducible exact KS.out _ _ _ _ _ _ _ (by first | exact Nat.le_refl _ | assumption) (by assumption)))) (first | (go_at_call 31; (with_reducible refine (HAT.out _ _ (by assumption)).mono ?_); rintro e wx ⟨rfl, b, hkeep⟩; (first | (replace hz := Lib.hid ((b.block _ (row_lt hz.out)).trans hz.out)) | (with_reducible have hz := Lib.hid (carry_new b)) | (with_reducible have hz := Lib.hid (carry_drew b)) | skip); clear b; have hsz := hkeep.2.2.2.2.2.2.2.size) | (go_at_call 28; (first | (have hlt := row_lt hz.out) | skip); (with_reducible refine (HCL.out _ (by assumption)).mono ?_); rintro e wx ⟨a8, n8, c8, rfl, hmn, b, hkeep⟩; (first | (have hlt0 := hlt; clear hlt0) | (with_reducible have hlt := carry_lt b) | (with_reducible have hlt := carry_ltd b) | skip); (first | (replace hz := Lib.hid ((b.block _ (row_lt hz.out)).trans hz.out)) | (with_reducible have hz := Lib.hid (carry_new b)) | (with_reducible have hz := Lib.hid (carry_drew b)) | skip); clear b; (first | (have hq := hz; obtain ⟨⟨z0, z1, z2, z3, z4, z5, z6⟩, ⟨y0, y1, y2, y3, y4, y5, y6⟩⟩ := ns_reads hq.out; clear hq) | skip)))
    all_goals
      go_wp2_with fail
      go_meet
      first
        | (with_reducible exact ⟨_, a8, n8, c8, rfl, rfl, Lib.hid hkeep.2.2.2.2.2.2.2.size, Lib.hid (heap_alloc_new _ _), Lib.hid (hmn.mnts.below ((Below.refl _ _).alloc (Nat.le_refl _) _)), Lib.hid (KA.out _ hkeep).2.2.2.2.2.2.2⟩)
        | ((with_reducible refine ⟨_, a8, n8, c8, rfl, rfl, Lib.hid (by first | exact Nat.le_refl _ | assumption), Lib.hid ?_, Lib.hid ?_, Lib.hid ?_⟩); exact (ns_stored _ _ _ _ _ _ _ hz.out).1; exact (hmn.grown (ns_stored _ _ _ _ _ _ _ hz.out).2 (fun h => by rcases h with h | h <;> first | omega | (simp at h; omega) | (simp at h))).mnts; exact (KS.out _ _ _ _ _ _ _ (by first | exact Nat.le_refl _ | assumption) hkeep).2.2.2.2.2.2.2)
  case rest =>
    obtain ⟨g2, a2, n2, c2, rfl, rfl, HG2, HN2, HM2, HBW⟩ := hcut
    generalize wc = V1 at *
    have HNE := Lib.hid (show g2 ≠ gn from fun e => by have := HG2.out; have := row_lt HN1.out; omega)
    replace HG2 := Lib.hid (show w.heap.size ≤ g2 from by have := HG2.out; have := HB.out.size; omega)
    replace HN1 := Lib.hid ((HBW.out.block _ (row_lt HN1.out)).trans HN1.out)
    replace HB := Lib.hid (bnext HB.out HBW.out)
    clear HBW
    have HRT := Lib.hid (fun (W : World) (h : Mnts W (.slice a2 n2 c2) Ns.am1) => show Calls Try.prog 12 #[.agg #[.int .i64 3, .int .i64 0, .int .i64 1, .int .i64 0, .string ⟨#[]⟩, .string ⟨#[47, 120]⟩, .slice a2 n2 c2]] W fun e w' => e = .returned (.bool true) ∧ Below W.heap.size W w' from (mright_any 3 (Ns.at_ 1) _ Ns.am1 W h (by decide) (by decide)).mono fun e w' h' => ⟨by rw [← Ns.am1_right]; exact h'.1, h'.2⟩)
    obtain ⟨⟨r0, r1, r2, r3, r4, r5, r6⟩, _⟩ := ns_reads HN1.out
    obtain ⟨⟨s0, s1, s2, s3, s4, s5, s6⟩, _⟩ := ns_reads HN2.out
    go_wp2_with fail
    (with_reducible refine (HRT.out _ HM2.out).mono ?_); rintro e V2 ⟨rfl, HBW⟩
    replace HBW := Lib.hid HBW
    replace HN1 := Lib.hid ((HBW.out.block _ (row_lt HN1.out)).trans HN1.out)
    replace HN2 := Lib.hid ((HBW.out.block _ (row_lt HN2.out)).trans HN2.out)
    replace HM2 := Lib.hid (HM2.out.below HBW.out)
    replace HB := Lib.hid (bnext HB.out HBW.out)
    clear HBW HRT r0 r1 r2 r3 r4 r5 r6 s0 s1 s2 s3 s4 s5 s6
    go_upto_region 5 with fail
    rename (∀ (a : Act) (w : World), Code.wp _ _ _ a w → _) => ax
    exact aw5 w _ gn g2 a2 n2 c2 HNE HG2 HN1 HN2 HM2 HB _ _ _ _ _ _ _ _ _ _ _ _ _ _ _ _ _ _ _ _ _ _ _ _ _ _ _ _ _ _ _ _ _ _ _ _ _ _ _ _ _ _ _ _ _ _ _ _ _ _ _ _ _ _ _ _ _ _ _ _ _ _ _ _ _ _ _ _ _ _ _ _ _ _ _ _ _ _ _ _ _ _ _ _ _ _ _ _ _ _ _ _ _ _ _ _ _ _ _ _ _ _ _ _ _ _ _ _ _ _ _ _ _ _ _ _ _ _ _ _ _ _ _ _ _ _ _ _ _ _ _ _ _ _ _ _ _ _ _ _ _ _ _ _ _ _ _ _ _ _ _ _ _ _ _ _ _ _ _ _ _ _ _ _ _ _ _ _ _ _ _ _ _ _ _ _ _ _ _ _ (by kernel_rfl) ax
end Go.Proofs.Ytganenaaglfdnaa
