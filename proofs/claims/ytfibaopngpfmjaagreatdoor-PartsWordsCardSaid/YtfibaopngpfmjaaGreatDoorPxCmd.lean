/- What the parser's command, pipe, chain and item return at words: a simple command. Conditions: at most 900 tokens, all words, the first one echo; bytealg.MaxLen holds a number. -/
import Derived.Test.YtfibaopngpfmjaaGreatDoorPxSimple
set_option linter.unusedVariables false
set_option linter.unusedSimpArgs false
namespace Go.Proofs.YtfibaopngpfmjaaGreatDoor
open Go.RowKit Go.Proofs
/-- What is returned: a simple command with the words of l. -/
def CmdSays (w : World) (g : Nat) (l : List Tok) (e : Ending) (w' : World) : Prop :=
  ∃ (p : Int) (ao : Option Addr) (cap : Nat), e = .returned (.agg #[.int .i64 1, .int .i64 p, .string (T []), .slice ao l.length cap, .slice none 0 0, .slice none 0 0]) ∧ w'.ownsRow w.heap.size 36 5 (.slice ao l.length cap) l.length (wds l) ∧ PrS w' g l l.length ∧ w.grownBy w' (some g)
/-- The state behind the inner call. -/
def CSt (w W : World) (g : Nat) (l : List Tok) (v : Value) : Prop :=
  PrS W g l l.length ∧ W.heap[w.heap.size]? = some (.cells #[.int .i64 0, .int .i64 0, .string (T []), .slice none 0 0, .slice none 0 0, .slice none 0 0] 31 (0, 0)) ∧ W.ownsRow w.heap.size 36 5 v l.length (wds l) ∧ w.grownBy W (some g) ∧ g < w.heap.size
theorem CSt.next {w W W' : World} {g : Nat} {l : List Tok} {v : Value} (h : CSt w W g l v) (hb : Below W.heap.size W W') : CSt w W' g l v := by
  obtain ⟨h1, h2, h3, h4, h5⟩ := h
  exact ⟨h1.next hb, (hb.block _ (row_ltP h2)).trans h2, own_next h3 hb, h4.trans (below_grownBy hb (some g)), h5⟩
/-- Behind the inner call, from its start w0 on: a world in which the result's place is laid. -/
theorem CSt.of {w w0 w1 : World} {g : Nat} {l : List Tok} {v : Value} (hg0 : w.grownBy w0 (some g)) (hz : w0.heap[w.heap.size]? = some (.cells #[.int .i64 0, .int .i64 0, .string (T []), .slice none 0 0, .slice none 0 0, .slice none 0 0] 31 (0, 0))) (hgl : g < w.heap.size)
    (ho : w1.ownsRow w0.heap.size 36 5 v l.length (wds l)) (hs : PrS w1 g l l.length) (hg : w0.grownBy w1 (some g)) : CSt w w1 g l v :=
  ⟨hs, (hg.block _ (row_ltP hz) (fun e => by cases e; omega)).trans hz, owns_lower ho hg0.size, hg0.trans hg, hgl⟩
theorem CSt.fin {w W : World} {g : Nat} {l : List Tok} {ao : Option Addr} {n cap : Nat} (h : CSt w W g l (.slice ao l.length cap)) (p : Int) :
    CmdSays w g l (.returned (.agg #[.int .i64 1, .int .i64 p, .string (T []), .slice ao l.length cap, .slice none 0 0, .slice none 0 0]))
      ((((((W.setCell ⟨w.heap.size, 0, none⟩ (.int .i64 1)).setCell ⟨w.heap.size, 1, none⟩ (.int .i64 p)).setCell ⟨w.heap.size, 2, none⟩ (.string (T []))).setCell ⟨w.heap.size, 3, none⟩ (.slice ao l.length cap)).setCell ⟨w.heap.size, 4, none⟩ (.slice none 0 0)).setCell ⟨w.heap.size, 5, none⟩ (.slice none 0 0)) := by
  obtain ⟨h1, h2, h3, h4, h5⟩ := h
  exact ⟨p, ao, cap, rfl, h3.kept (six_grown _ _ _ _ _ _ _) (Or.inr (own_neP h3 h2 (by decide))), h1.other h2 (by decide) (by omega) (six_grown _ _ _ _ _ _ _), grown_new h4 (six_grown _ _ _ _ _ _ _) (Nat.le_refl _)⟩
theorem simple_says (g : Nat) (l : List Tok) (w : World) (h : PrS w g l 0) (hl : l.length ≤ 900) (hl0 : 0 < l.length) (hw : Wds l) :
    Calls Tryz.prog 260 #[.pointer (some ⟨g, 0, none⟩)] w fun e w' => CmdSays w g l e w' := by
  refine (simple_any g l w h hl hl0 hw).mono ?_
  rintro e w' ⟨p, wv, rfl, h1, h2, h3⟩
  obtain ⟨ao, cap, rfl, _⟩ := own_form h1
  exact ⟨p, ao, cap, rfl, h1, h2, h3⟩
/-- The state of command: the two tokens in places of their own. -/
def KSt (w W : World) (g tb : Nat) (l : List Tok) (q : Nat) (u : Tok) : Prop :=
  PrS W g l 0 ∧ W.heap[w.heap.size]? = some (.cells #[.int .i64 0, .int .i64 0, .string (T []), .slice none 0 0, .slice none 0 0, .slice none 0 0] 31 (0, 0)) ∧ Below w.heap.size w W ∧
  W.heap[tb]? = some (.cells #[.int .i64 1, .int .i64 (q : Int), .string (T [101, 99, 104, 111]), .string (T [48, 48, 48, 48])] 132 (0, 0)) ∧
  W.heap[tb + 1]? = some (.cells #[.int .i64 u.kind, .int .i64 (u.pos : Int), .string (T u.text), .string (T u.quoted)] 132 (0, 0))
theorem KSt.next {w W W' : World} {g tb : Nat} {l : List Tok} {q : Nat} {u : Tok} (h : KSt w W g tb l q u) (hb : Below W.heap.size W W') : KSt w W' g tb l q u := by
  obtain ⟨h1, h2, h3, h4, h5⟩ := h
  exact ⟨h1.next hb, (hb.block _ (row_ltP h2)).trans h2, bnext h3 hb, (hb.block _ (row_ltP h4)).trans h4, (hb.block _ (row_ltP h5)).trans h5⟩
theorem KSt.reads {w W : World} {g tb : Nat} {l : List Tok} {q : Nat} {u : Tok} (h : KSt w W g tb l q u) :
    (W.cell? ⟨tb, 0, none⟩ = some (.int .i64 1) ∧ W.cell? ⟨tb, 1, none⟩ = some (.int .i64 (q : Int)) ∧ W.cell? ⟨tb, 2, none⟩ = some (.string (T [101, 99, 104, 111])) ∧ W.cell? ⟨tb, 3, none⟩ = some (.string (T [48, 48, 48, 48]))) ∧
    (W.cell? ⟨tb + 1, 0, none⟩ = some (.int .i64 u.kind) ∧ W.cell? ⟨tb + 1, 1, none⟩ = some (.int .i64 (u.pos : Int)) ∧ W.cell? ⟨tb + 1, 2, none⟩ = some (.string (T u.text)) ∧ W.cell? ⟨tb + 1, 3, none⟩ = some (.string (T u.quoted))) :=
  ⟨four_cells h.2.2.2.1, four_cells h.2.2.2.2⟩
set_option maxRecDepth 100000 in
set_option maxHeartbeats 8000000 in
theorem command_any (g q : Nat) (m : Int) (l : List Tok) (w : World) (h : PrS w g l 0) (hl : l.length ≤ 900) (hl0 : 0 < l.length) (hw : Wds l) (he : tkAt l 0 = echoTok q) (hm : w.cell? ⟨0, 0, none⟩ = some (.int .i64 m)) :
    Calls Tryz.prog 234 #[.pointer (some ⟨g, 0, none⟩), .bool false] w fun e w' => CmdSays w g l e w' := by
  have hgl := h.lt
  have hm0 : 0 < w.heap.size := block_lt_of_cell hm
  have HB0 := Lib.hid (alloc_below w czero)
  have HZ0 := Lib.hid (heap_alloc_new w czero)
  have HS0 := Lib.hid (h.next HB0.out)
  have HT0 := Lib.hid (fun (W : World) (h : PrS W g l 0) => ptok0 g 0 l W h (by omega) (by omega))
  have HT1 := Lib.hid (fun (W : World) (h : PrS W g l 0) => ptok1 g 0 l W h (by omega) (by omega))
  have HSI := Lib.hid (fun (W : World) (h : PrS W g l 0) => simple_says g l W h hl hl0 hw)
  have HBG := Lib.hid (fun (W : World) (h : PrS W g l 0) => begins_yes g 0 l W h (by omega) hl0 hw)
  have HIU := Lib.hid (fun (y : ByteArray) (W : World) => is_not (tkAt l 1) y W (hw.soft 1))
  have HIE := Lib.hid (fun (y : ByteArray) (W : World) => is_not (echoTok q) y W ⟨rfl, rfl, rfl⟩)
  have HPL := Lib.hid (fun (W : World) => plain_echo q W)
  have HNM := Lib.hid (fun (W : World) => isName_echo W)
  have HKW := Lib.hid (fun (W : World) hm => keyword_echo q m W hm)
  have HM := Lib.hid hm
  rw [he] at HT0
  rw [echo_val] at HT0 HIE HPL HKW
  rw [show 0 + 1 = 1 from rfl] at HT1
  clear h hl hl0 hw he hm
  unfold tkval at HT1 HIU
  generalize tkAt l 1 = u at *
  go_enter Tryz.func234, Tryz.ntmps234
  go_wp2_with fail
  generalize hw0 : World.alloc _ _ = w0 at *
  clear hw0
  (with_reducible refine (HT0.out _ HS0.out).mono ?_); rintro e w1 ⟨rfl, b1⟩
  have HS1 := Lib.hid (HS0.out.next b1)
  have HZ1 := Lib.hid ((b1.block _ (row_ltP HZ0.out)).trans HZ0.out)
  have HB1 := Lib.hid (bnext HB0.out b1)
  clear b1 HS0 HZ0 HB0 HT0
  go_wp2_with fail
  (with_reducible refine (HT1.out _ HS1.out).mono ?_); rintro e w2 ⟨rfl, b2⟩
  have HS2 := Lib.hid (HS1.out.next b2)
  have HZ2 := Lib.hid ((b2.block _ (row_ltP HZ1.out)).trans HZ1.out)
  have HB2 := Lib.hid (bnext HB1.out b2)
  clear b2 HS1 HZ1 HB1 HT1
  go_wp2_with fail
  have HK := Lib.hid (show KSt w ((w2.alloc (.cells #[.int .i64 1, .int .i64 (q : Int), .string (T [101, 99, 104, 111]), .string (T [48, 48, 48, 48])] 132)).alloc (.cells #[.int .i64 u.kind, .int .i64 (u.pos : Int), .string (T u.text), .string (T u.quoted)] 132)) g w2.heap.size l q u from by
    have hb := bnext (alloc_below w2 (.cells #[.int .i64 1, .int .i64 (q : Int), .string (T [101, 99, 104, 111]), .string (T [48, 48, 48, 48])] 132)) (alloc_below _ (.cells #[.int .i64 u.kind, .int .i64 (u.pos : Int), .string (T u.text), .string (T u.quoted)] 132))
    refine ⟨HS2.out.next hb, (hb.block _ (row_ltP HZ2.out)).trans HZ2.out, bnext HB2.out hb, ?_, ?_⟩
    · exact (Lib.alloc_old _ _ _ (by simp)).trans (heap_alloc_new w2 _)
    · have := heap_alloc_new (w2.alloc (.cells #[.int .i64 1, .int .i64 (q : Int), .string (T [101, 99, 104, 111]), .string (T [48, 48, 48, 48])] 132)) (.cells #[.int .i64 u.kind, .int .i64 (u.pos : Int), .string (T u.text), .string (T u.quoted)] 132)
      simpa using this)
  clear HS2 HZ2 HB2
  generalize hw3 : World.alloc _ _ = w3 at *
  generalize w2.heap.size = tb at *
  clear hw3
  (with_reducible refine (HPL.out _).mono ?_); rintro e w4 ⟨rfl, b4⟩
  have HK4 := Lib.hid (HK.out.next b4)
  clear b4 HK
  obtain ⟨⟨k0, k1, k2, k3⟩, j0, j1, j2, j3⟩ := HK4.out.reads
  go_wp2_with fail
  (with_reducible refine (HNM.out _).mono ?_); rintro e wx ⟨rfl, rfl⟩
  go_wp2_with fail
  clear k0 k1 k2 k3 j0 j1 j2 j3
  (with_reducible refine (HIU.out _ _).mono ?_); rintro e w6 ⟨rfl, b6⟩
  have HK6 := Lib.hid (HK4.out.next b6)
  clear b6 HK4
  obtain ⟨⟨k0, k1, k2, k3⟩, j0, j1, j2, j3⟩ := HK6.out.reads
  go_wp2_with fail
  clear k0 k1 k2 k3 j0 j1 j2 j3
  (with_reducible refine (HIE.out _ _).mono ?_); rintro e w7 ⟨rfl, b7⟩
  have HK7 := Lib.hid (HK6.out.next b7)
  clear b7 HK6
  obtain ⟨⟨k0, k1, k2, k3⟩, j0, j1, j2, j3⟩ := HK7.out.reads
  go_wp2_with fail
  clear k0 k1 k2 k3 j0 j1 j2 j3
  (with_reducible refine (HIE.out _ _).mono ?_); rintro e w8 ⟨rfl, b8⟩
  have HK8 := Lib.hid (HK7.out.next b8)
  clear b8 HK7
  obtain ⟨⟨k0, k1, k2, k3⟩, j0, j1, j2, j3⟩ := HK8.out.reads
  go_wp2_with fail
  clear k0 k1 k2 k3 j0 j1 j2 j3
  (with_reducible refine (HIE.out _ _).mono ?_); rintro e w9 ⟨rfl, b9⟩
  have HK9 := Lib.hid (HK8.out.next b9)
  clear b9 HK8
  obtain ⟨⟨k0, k1, k2, k3⟩, j0, j1, j2, j3⟩ := HK9.out.reads
  go_wp2_with fail
  have hmk := (HK9.out.2.2.1.cell (p := ⟨0, 0, none⟩) hm0).trans HM.out
  clear k0 k1 k2 k3 j0 j1 j2 j3
  (with_reducible refine (HKW.out _ hmk).mono ?_); rintro e w10 ⟨rfl, b10⟩
  have HK10 := Lib.hid (HK9.out.next b10)
  clear b10 HK9
  obtain ⟨⟨k0, k1, k2, k3⟩, j0, j1, j2, j3⟩ := HK10.out.reads
  go_wp2_with fail
  have hpb := HK10.out.1
  clear k0 k1 k2 k3 j0 j1 j2 j3
  (with_reducible refine (HBG.out _ hpb).mono ?_); rintro e w11 ⟨rfl, b11⟩
  have HK11 := Lib.hid (HK10.out.next b11)
  clear b11 HK10
  obtain ⟨⟨k0, k1, k2, k3⟩, j0, j1, j2, j3⟩ := HK11.out.reads
  go_wp2_with fail
  clear hpb hmk k0 k1 k2 k3 j0 j1 j2 j3
  have hpb := HK11.out.1
  (with_reducible refine (HSI.out _ hpb).mono ?_); rintro e wy ⟨p, ao, cap, rfl, ho, hs, hg⟩
  have HC := Lib.hid (CSt.of (below_grownBy HK11.out.2.2.1 (some g)) HK11.out.2.1 hgl ho hs hg)
  clear ho hs hg HK11 hpb
  obtain ⟨z0, z1, z2, z3, z4, z5⟩ := six_cells HC.out.2.1
  obtain ⟨y0, y1, y2, y3, y4, y5⟩ := six_frozen HC.out.2.1
  go_wp2_with fail
  have hq := six_stored (v0 := .int .i64 1) (v1 := .int .i64 p) (v2 := .string (T [])) (v3 := .slice ao l.length cap) (v4 := .slice none 0 0) (v5 := .slice none 0 0) HC.out.2.1
  obtain ⟨q0, q1, q2, q3, q4, q5⟩ := six_cells hq
  exact bodyPost_ret (v := .agg #[.int .i64 1, .int .i64 p, .string (T []), .slice ao l.length cap, .slice none 0 0, .slice none 0 0]) (by simp [results, Tryz.results234, go_sem, q0, q1, q2, q3, q4, q5]) rfl (HC.out.fin (n := 0) p)
end Go.Proofs.YtfibaopngpfmjaaGreatDoor
