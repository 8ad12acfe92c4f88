/- What parse.Program returns at words: one simple command with these words. Conditions: at most 900 words, the first one echo, at most 10000 bytes; bytealg.MaxLen holds a number. -/
import Derived.Test.YtfibaopngpfmjaaGreatDoorPxFits
set_option linter.unusedVariables false
set_option linter.unusedSimpArgs false
namespace Go.Proofs.YtfibaopngpfmjaaGreatDoor
open Go.RowKit Go.Proofs
/-- One command in memory, with the words of l. -/
def CmdIn (W : World) (cb k wc : Nat) (p : Int) (l : List Tok) : Prop :=
  (W.cell? ⟨cb, 0, none⟩ = some (.int .i64 1) ∧ W.cell? ⟨cb, 1, none⟩ = some (.int .i64 p) ∧ W.cell? ⟨cb, 2, none⟩ = some (.string (T [])) ∧ W.cell? ⟨cb, 3, none⟩ = some (.slice (some ⟨k, 0, none⟩) l.length wc) ∧ W.cell? ⟨cb, 4, none⟩ = some (.slice none 0 0) ∧ W.cell? ⟨cb, 5, none⟩ = some (.slice none 0 0)) ∧ cb < W.heap.size ∧ k < W.heap.size ∧ WCells W k l
theorem CmdIn.next {W W' : World} {cb k wc : Nat} {p : Int} {l : List Tok} (h : CmdIn W cb k wc p l) (hb : Below W.heap.size W W') : CmdIn W' cb k wc p l := by
  obtain ⟨⟨h0, h1, h2, h3, h4, h5⟩, hc, hk, hw⟩ := h
  exact ⟨⟨cell_below hb hc h0, cell_below hb hc h1, cell_below hb hc h2, cell_below hb hc h3, cell_below hb hc h4, cell_below hb hc h5⟩, Nat.lt_of_lt_of_le hc hb.size, Nat.lt_of_lt_of_le hk hb.size, hw.next hb hk⟩
theorem cmdin_of {W : World} {B1 B2 : Nat} {co ao : Option Addr} {cc cap : Nat} {p : Int} {l : List Tok} (hc : W.ownsRow B1 31 6 (.slice co 1 cc) 1 [.int .i64 1, .int .i64 p, .string (T []), .slice ao l.length cap, .slice none 0 0, .slice none 0 0])
    (hw : W.ownsRow B2 36 5 (.slice ao l.length cap) l.length (wds l)) (hl : 0 < l.length) : ∃ cb k wc, co = some ⟨cb, 0, none⟩ ∧ CmdIn W cb k wc p l := by
  obtain ⟨k, wc, e, hk, hwc⟩ := wcells_of hw hl
  cases e
  obtain ⟨co', cc', e, hcl⟩ := own_form hc
  cases e
  obtain ⟨cb, rfl, hcell⟩ := hcl (by omega)
  have c0 := hcell 0 _ rfl
  exact ⟨cb, k, cap, rfl, ⟨c0, hcell 1 _ rfl, hcell 2 _ rfl, hcell 3 _ rfl, hcell 4 _ rfl, hcell 5 _ rfl⟩, block_lt_of_cell c0, hk, hwc⟩
set_option maxRecDepth 100000 in
set_option maxHeartbeats 4000000 in
theorem indexFn_any (p : Int) (cb cc k wc : Nat) (l : List Tok) (w : World) (hl : l.length ≤ 900) (hc : CmdIn w cb k wc p l) :
    Calls Tryz.prog 100 #[.slice (some ⟨cb, 0, none⟩) 1 cc, .func (.func 49) #[] #[]] w fun e w' => e = .returned (.int .i64 (-1)) ∧ Below w.heap.size w w' := by
  obtain ⟨⟨c0, c1, c2, c3, c4, c5⟩, hcb, hk, hw⟩ := hc
  have HF := Lib.hid (fits1_any p k wc l w hl hk hw)
  clear hw
  go_enter Tryz.func100, Tryz.ntmps100
  go_wp2_with fail
  refine wp_loop_rounds 2 ?_
  rw [rounds_succ]
  go_wp2_with fail
  (with_reducible refine HF.out.mono ?_); rintro e w1 ⟨rfl, b1⟩
  have HB1 := Lib.hid b1
  clear b1
  go_wp2_with fail
  rw [rounds_succ]
  go_wp2_with fail
  go_ret
  exact ⟨rfl, HB1.out⟩
set_option maxHeartbeats 1000000 in
theorem contFn_any (p : Int) (cb cc k wc : Nat) (l : List Tok) (w : World) (hl : l.length ≤ 900) (hc : CmdIn w cb k wc p l) :
    Calls Tryz.prog 48 #[.slice (some ⟨cb, 0, none⟩) 1 cc, .func (.func 49) #[] #[]] w fun e w' => e = .returned (.bool false) ∧ Below w.heap.size w w' := by
  have HF := Lib.hid (indexFn_any p cb cc k wc l w hl hc)
  clear hc hl
  go_enter Tryz.func48, Tryz.ntmps48
  go_wp2_with fail
  (with_reducible refine HF.out.mono ?_); rintro e w1 ⟨rfl, b1⟩
  have HB1 := Lib.hid b1
  clear b1
  go_wp2_with fail
  go_ret
  exact ⟨rfl, HB1.out⟩
set_option maxHeartbeats 1000000 in
theorem fits_any (p : Int) (cb cc k wc : Nat) (l : List Tok) (w : World) (hl : l.length ≤ 900) (hc : CmdIn w cb k wc p l) :
    Calls Tryz.prog 17 #[.slice (some ⟨cb, 0, none⟩) 1 cc] w fun e w' => e = .returned (.bool true) ∧ Below w.heap.size w w' := by
  have HS := Lib.hid (size_any p cb cc k wc l w hl hc.1 hc.2.2.1 hc.2.2.2)
  have HF := Lib.hid (fun (W : World) (h : CmdIn W cb k wc p l) => contFn_any p cb cc k wc l W hl h)
  have HC := Lib.hid hc
  have hle : (1 : Int) + (l.length : Int) ≤ 1024 := by omega
  clear hc hl
  go_enter Tryz.func17, Tryz.ntmps17
  go_wp2_with fail
  (with_reducible refine HS.out.mono ?_); rintro e w1 ⟨rfl, b1⟩
  have HC1 := Lib.hid (HC.out.next b1)
  have HB1 := Lib.hid b1
  clear b1
  go_wp2_with fail
  have hc1 := HC1.out
  (with_reducible refine (HF.out _ hc1).mono ?_); rintro e w2 ⟨rfl, b2⟩
  have HB2 := Lib.hid (bnext HB1.out b2)
  clear b2
  go_wp2_with fail
  go_ret
  exact ⟨rfl, HB2.out⟩
set_option maxRecDepth 100000 in
set_option maxHeartbeats 4000000 in
theorem program_any (m : Int) (vs : List (List UInt8)) (w : World) (hv : vs.length ≤ 800) (hs : (Lx.prog (echo :: vs)).length ≤ 10000) (hm : w.cell? ⟨0, 0, none⟩ = some (.int .i64 m)) :
    Calls Tryz.prog 6 #[.string (T (Lx.prog (echo :: vs)))] w fun e w' => ∃ (l : List Tok) (p : Int) (cb cc k wc : Nat), e = .returned (.tuple #[.slice (some ⟨cb, 0, none⟩) 1 cc, .int .i64 0, .int .i64 0]) ∧ CmdIn w' cb k wc p l ∧ l.map Tok.key = (echo :: vs).map Lx.key ∧ Below w.heap.size w w' := by
  have hm0 : 0 < w.heap.size := block_lt_of_cell hm
  have HS := Lib.hid (scan_any (echo :: vs) w (by simp; omega) hs)
  have HM := Lib.hid hm
  clear hm hs
  generalize T (Lx.prog (echo :: vs)) = x at *
  go_enter Tryz.func6, Tryz.ntmps6
  go_wp2_with fail
  (with_reducible refine HS.out.mono ?_); rintro e w1 ⟨l, tv, rfl, ho, hkey, b1⟩
  have hlen : l.length = vs.length + 1 := by have := congrArg List.length hkey; simpa using this
  have hwd : Wds l := by
    intro t ht
    have h1 : t.key ∈ l.map Tok.key := List.mem_map_of_mem ht
    rw [hkey, List.mem_map] at h1
    obtain ⟨v, _, hv⟩ := h1
    exact (congrArg Prod.fst hv).symm
  obtain ⟨q, hq⟩ : ∃ q, tkAt l 0 = echoTok q := by
    cases l with
    | nil => simp at hlen
    | cons t r =>
      refine ⟨t.pos, ?_⟩
      have h1 : t.key = Lx.key echo := by
        rw [List.map_cons, List.map_cons] at hkey
        exact (List.cons.inj hkey).1
      obtain ⟨a, b, c, d⟩ := t
      have h2 := congrArg Prod.fst h1
      have h3 := congrArg (fun x => x.2.1) h1
      have h4 := congrArg (fun x => x.2.2) h1
      simp only [Tok.key, Lx.key] at h2 h3 h4
      show Tok.mk a b c d = Tok.mk 1 b echo [48, 48, 48, 48]
      rw [h2, h3, h4, show Lx.marks echo = [48, 48, 48, 48] from by decide]
  obtain ⟨ao, cap, rfl, _⟩ := own_form ho
  have HI := Lib.hid (items_any (w.heap.size + 1) q x (.slice ao l.length cap) m l w1 ho (by omega) (by omega) hwd hq ((b1.cell (p := ⟨0, 0, none⟩) hm0).trans HM.out))
  have HB1 := Lib.hid b1
  have HK := Lib.hid hkey
  have HFT := Lib.hid (fun (p : Int) (cb cc k wc : Nat) (W : World) (h : CmdIn W cb k wc p l) => fits_any p cb cc k wc l W (by omega) h)
  have hl0 : 0 < l.length := by omega
  clear b1 hkey ho hwd hq HS hlen
  go_wp2_with fail
  (with_reducible refine HI.out.mono ?_); rintro e w2 ⟨p, wo, wcap, co, cc, rfl, hc2, ho2, b2⟩
  obtain ⟨cb, k, wc, rfl, hci⟩ := cmdin_of hc2 ho2 hl0
  have HC2 := Lib.hid hci
  have HB2 := Lib.hid (bnext HB1.out b2)
  clear hc2 ho2 b2 hci HI HB1
  go_wp2_with fail
  have hc2 := HC2.out
  (with_reducible refine (HFT.out p cb cc k wc _ hc2).mono ?_); rintro e w3 ⟨rfl, b3⟩
  have HC3 := Lib.hid (HC2.out.next b3)
  have HB3 := Lib.hid (bnext HB2.out b3)
  clear b3 hc2 HC2 HB2 HFT
  go_wp2_with fail
  go_ret3
  exact ⟨l, p, cb, cc, k, wc, rfl, HC3.out, HK.out, HB3.out⟩
end Go.Proofs.YtfibaopngpfmjaaGreatDoor
