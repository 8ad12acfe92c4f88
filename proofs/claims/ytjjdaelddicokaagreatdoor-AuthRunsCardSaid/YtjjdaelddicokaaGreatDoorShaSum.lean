/- What hash.Sum returns: Sha.sum. Conditions: a text of at most 10^9 bytes, the 64 constants in the variable. -/
import Derived.Test.YtjjdaelddicokaaGreatDoorShaPad
import Derived.Deep.AppendLies
set_option linter.unusedVariables false
set_option linter.unusedSimpArgs false
namespace Go.Proofs.YtjjdaelddicokaaGreatDoor
open Go.RowKit

theorem extract_T' (l : List UInt8) (a b : Nat) : (T l).extract a b = T ((l.take b).drop a) := by
  apply ByteArray.ext
  rw [ByteArray.data_extract]
  simp [List.drop_take]

theorem after_alloc1_new {w w1 : World} {A : Obj} (hb : Below (w.alloc A).heap.size (w.alloc A) w1) : w1.heap[w.heap.size]? = some A :=
  (hb.block _ (by simp)).trans (heap_alloc_new _ _)
theorem after_alloc1 {w w1 : World} {A : Obj} (hb : Below (w.alloc A).heap.size (w.alloc A) w1) : Below w.heap.size w w1 :=
  ((Below.refl _ _).alloc (Nat.le_refl _) _).trans (hb.mono (by simp))
theorem index_word (cs : Array Value) (k : Nat) (x : Value) (hk : k < 8) (hx : cs[k]? = some x) (w : World) : (Instr.index 87 (.agg cs) (.int .i64 (k : Int))).run Tryz.prog w = .ok x w := by
  have hk' : (k : Int) < 8 := by omega
  simp [Instr.index, run_underlying Tryz.underlying87, asIntOf, part, Tryz.sizeOf80, Tryz.isAgg80, hx]
  omega
theorem be4_cells (x : Nat) (h : x < 4294967296) : bys (Sha.be 4 x) = [.int .u8 ((x : Int) / 16777216), .int .u8 ((x : Int) / 65536 % 256), .int .u8 ((x : Int) / 256 % 256), .int .u8 ((x : Int) % 256)] := by
  have e1 : ((x / 256 / 256 / 256 % 256 : Nat) : Int) = (x : Int) / 16777216 := by omega
  have e2 : ((x / 256 / 256 % 256 : Nat) : Int) = (x : Int) / 65536 % 256 := by omega
  have e3 : ((x / 256 % 256 : Nat) : Int) = (x : Int) / 256 % 256 := by omega
  have e4 : ((x % 256 : Nat) : Int) = (x : Int) % 256 := by omega
  simp only [Sha.be, bys, List.nil_append, List.cons_append, List.map_cons, List.map_nil, UInt8.toNat_ofNat']
  rw [← e1, ← e2, ← e3, ← e4]
def outk (v : Sha.S8) (k : Nat) : List UInt8 := ((sl v).take k).flatMap (Sha.be 4)
theorem outk_succ (v : Sha.S8) (k : Nat) (h : k < 8) : outk v (k + 1) = outk v k ++ Sha.be 4 ((sl v).getD k 0) := by
  have hl : k < (sl v).length := h
  unfold outk
  rw [List.take_succ_eq_append_getElem hl, List.flatMap_append, List.getD_eq_getElem?_getD, List.getElem?_eq_getElem hl]
  simp
theorem outk_end (v : Sha.S8) : outk v 8 = Sha.out v := by simp [outk, sl, Sha.out]
theorem outk_length (v : Sha.S8) (k : Nat) (h : k ≤ 8) : (outk v k).length = 4 * k := by
  induction k with
  | zero => rfl
  | succ k ih => rw [outk_succ v k (by omega), List.length_append, ih (by omega), Sha.be_length]; omega
def slen (v : Value) : Nat := match v with | .string s => s.size | _ => 0

set_option maxRecDepth 100000 in
set_option maxHeartbeats 2000000 in
theorem sum_any (s : ByteArray) (w : World) (hs : s.size ≤ 1000000000) (hK : KIn w) :
    Calls Tryz.prog 79 #[.string s] w fun e w' => e = .returned (.string (T (Sha.sum s.data.toList))) ∧ Below w.heap.size w w' := by
  have HK := Lib.hid hK
  have HP := Lib.hid (fun w => pad_any s w hs)
  have HF := Lib.hid (show Sha.sum s.data.toList = Sha.out (Sha.run ((Sha.pad s.data.toList).length / 64) Sha.iv (Sha.pad s.data.toList)) from rfl)
  have hmod := Sha.pad_mod s.data.toList
  have hlen : (Sha.pad s.data.toList).length ≤ 1000000200 := by
    have h64 : Sha.zer s.data.toList.length ≤ 63 := by unfold Sha.zer; omega
    have hn : s.data.toList.length = s.size := by simp
    rw [Sha.pad_length]; omega
  generalize Sha.pad s.data.toList = pp at *
  clear hK
  go_enter Tryz.func79, Tryz.ntmps79
  go_wp2_with fail
  refine (HP.out _).mono ?_
  rintro e w1 ⟨rfl, hb⟩
  have h1 : w1.heap[w.heap.size]? = some (.cells (st Sha.iv) 87 (0, 0)) := (after_alloc1_new hb).trans rfl
  replace hb := after_alloc1 hb
  go_wp2_with fail
  go_loopw [4] (fun p wr => ∃ (r : List UInt8) (v : Sha.S8), p = .string (T r) ∧ r.length % 64 = 0 ∧ r.length ≤ 1000000200 ∧ v.ok ∧ Sha.run (r.length / 64) v r = Sha.run (pp.length / 64) Sha.iv pp ∧
      wr.heap[w.heap.size]? = some (.cells (st v) 87 (0, 0)) ∧ Below w.heap.size w wr) (fun p _ => slen p)
  case atStart => exact ⟨pp, Sha.iv, rfl, hmod, hlen, Sha.iv_ok, rfl, h1, hb⟩
  case round =>
    obtain ⟨r, v, rfl, hrm, hrl, hv, hrun, hblk, hbb⟩ := hrel
    have hsz : (T r).size = r.length := T_size r
    by_cases he : r = []
    · subst he
      have hrun' : v = Sha.run (pp.length / 64) Sha.iv pp := hrun
      have HF2 := Lib.hid (show Sha.sum s.data.toList = Sha.out v from by rw [HF.out, hrun'])
      have hI8 : (Tryz.prog.info? 87).map (·.size) = some (st v).size := by kernel_rfl
      obtain ⟨i0, hi, hz0, hz1, hz2⟩ := info_parts (P := Tryz.prog) (e := 5) (z := .int .u8 0) (size := 1) (bytes := 1) (by kernel_rfl)
      have HBLK := Lib.hid hblk
      have HBB := Lib.hid hbb
      clear hblk hbb hb h1 hrun hrun' hrm hrl hsz
      have hlt : w.heap.size < wr.heap.size := by
        rcases Nat.lt_or_ge w.heap.size wr.heap.size with h' | h'
        · exact h'
        · have := HBLK.out; simp [Array.getElem?_eq_none h'] at this
      go_wp2_with (at_make; refine wpList_make_own _ rfl _ _ 85 rfl wr.heap.size 5 i0 (.int .u8 0) 1 Tryz.underlying85 hi hz0 hz1 _ _ _ 32 rfl rfl rfl ?b1 ?b2 ?b3 ?_)
      case b1 => rw [hz2]; omega
      case b2 => unfold maxLen; omega
      case b3 => omega
      intro w4 hown hg
      have hbk4 : w4.heap[w.heap.size]? = some (.cells (st v) 87 (0, 0)) := by rw [hg.block _ hlt (by simp)]; exact HBLK.out
      have hb4 : Below w.heap.size w w4 := HBB.out.grown hg HBB.out.size (by simp)
      have hs4 : wr.heap.size ≤ w4.heap.size := hg.size
      generalize wr.heap.size = B at *
      have hBw : w.heap.size ≤ B := Nat.le_of_lt hlt
      clear HBB HBLK hg
      generalize (Value.slice (some ⟨B, 0, none⟩) 0 32) = ov at *
      go_wp2_with (refine wpList_load_row rfl 87 _ rfl w.heap.size rfl 87 (st v) (0, 0) _ hbk4 Tryz.underlying87 rfl hI8 ?_)
      clear hI8 hbk4
      go_loopw [5, 21] (fun o i wr => ∃ k : Nat, k ≤ 8 ∧ i = .int .i64 k ∧ wr.ownsRow B 5 1 o (4 * k) (bys (outk v k)) ∧ Below w.heap.size w wr ∧ B ≤ wr.heap.size) (fun _ i _ => 8 - (intOf i).toNat)
      case atStart => exact ⟨0, by omega, rfl, hown, hb4, hs4⟩
      case round =>
        obtain ⟨k, hk, rfl, hown, hbb, hsB⟩ := hrel
        by_cases hlt : k < 8
        · have hv' := sl_lt hv k
          have HV := Lib.hid hv
          have hget : (st v)[k]? = some (.int .u32 (((sl v).getD k 0 : Nat) : Int)) := by rw [← pr_zero v v]; exact pr_get0 v v k hlt
          have HO := Lib.hid (outk_succ v k hlt)
          generalize (sl v).getD k 0 = x at *
          go_wp2_with fail
          rw [index_word (st v) k _ hlt hget]
          simp only [Result.andThen]
          rw [Oper.upon_value]
          go_wp2_with (at_builtin; refine wpList_append_own _ rfl _ _ 85 rfl B 5 i0 (.int .u8 0) 1 1 Tryz.underlying85 hi hz0 hz1 hz2 rfl (by decide) _ _ _ rfl (hown.alloc _) ⟨wr.heap.size, 0, none⟩ 4 4 (bys (Sha.be 4 x)) rfl rfl ?c1 ?c2 ?c3 ?c4 ?c5 ?_)
          case c1 => rw [be4_cells x hv']; exact World.news_of_block (t := 5) (fr := (0, 0)) (heap_alloc_new wr _)
          case c2 => exact bys_oneCell _
          case c3 => unfold maxLen; omega
          case c4 => omega
          case c5 => simp; omega
          intro v' w6 hown6 hgrow6 _
          have hb6 : Below w.heap.size w w6 := (hbb.alloc hbb.size _).grown hgrow6 (Nat.le_trans hbb.size (by simp)) (fun k hk => Nat.le_trans hBw (hown.lt k hk).1)
          have hs6 : B ≤ w6.heap.size := Nat.le_trans hsB (Nat.le_trans (by simp) hgrow6.size)
          rw [← bys_append, ← HO.out] at hown6
          clear hgrow6 hown hget
          go_wp2_with fail
          go_roundw
          case rel => exact ⟨k + 1, by omega, by go_num, hown6, hb6, hs6⟩
          case measure => simp [intOf]; omega
        · obtain rfl : k = 8 := by omega
          have hl := outk_length v 8 (by omega)
          have hcv := conv_own (src := 85) (dst := 9) Tryz.underlying85 Tryz.underlying5 Tryz.underlying9 (l := outk v 8) (by rw [hl]; exact hown)
          rw [outk_end] at hcv
          have HB := Lib.hid hbb
          clear hl hown hbb
          go_wp2_with fail
          go_ret
          exact ⟨by rw [HF2.out]; rfl, HB.out⟩
    · have h64 : 64 ≤ r.length := by
        have : 0 < r.length := List.length_pos_iff.2 he
        omega
      have hi64 : (64 : Int) ≤ (r.length : Int) := by omega
      have hie : r.isEmpty = false := by cases r with | nil => exact absurd rfl he | cons => rfl
      have hx1 : (T r).extract 0 64 = T (r.take 64) := by rw [extract_T']; simp
      have hx2 : (T r).extract 64 (T r).size = T (r.drop 64) := by rw [extract_T', hsz, List.take_length]
      have c0 : wr.cell? ⟨w.heap.size, 0, none⟩ = some (.int .u32 (v.a : Int)) := by rw [cell_of_row wr _ _ _ _ _ hblk]; rfl
      have c1 : wr.cell? ⟨w.heap.size, 1, none⟩ = some (.int .u32 (v.b : Int)) := by rw [cell_of_row wr _ _ _ _ _ hblk]; rfl
      have c2 : wr.cell? ⟨w.heap.size, 2, none⟩ = some (.int .u32 (v.c : Int)) := by rw [cell_of_row wr _ _ _ _ _ hblk]; rfl
      have c3 : wr.cell? ⟨w.heap.size, 3, none⟩ = some (.int .u32 (v.d : Int)) := by rw [cell_of_row wr _ _ _ _ _ hblk]; rfl
      have c4 : wr.cell? ⟨w.heap.size, 4, none⟩ = some (.int .u32 (v.e : Int)) := by rw [cell_of_row wr _ _ _ _ _ hblk]; rfl
      have c5 : wr.cell? ⟨w.heap.size, 5, none⟩ = some (.int .u32 (v.f : Int)) := by rw [cell_of_row wr _ _ _ _ _ hblk]; rfl
      have c6 : wr.cell? ⟨w.heap.size, 6, none⟩ = some (.int .u32 (v.g : Int)) := by rw [cell_of_row wr _ _ _ _ _ hblk]; rfl
      have c7 : wr.cell? ⟨w.heap.size, 7, none⟩ = some (.int .u32 (v.h : Int)) := by rw [cell_of_row wr _ _ _ _ _ hblk]; rfl
      have HM := Lib.hid (mix_any v (T (r.take 64)) wr.drew hv (by rw [T_size, List.length_take]; omega) (by rw [T_size, List.length_take]; omega) (HK.out.below hbb.drew))
      have HBLK := Lib.hid hblk
      have HBB := Lib.hid hbb
      clear hblk hbb hb h1
      go_wp2_with fail
      go_still_tail 3, (by kernel_rfl)
      change wpList _ _ _ _ _ wr.drew
      go_wp2_with fail
      refine HM.out.mono ?_
      rintro e w' ⟨rfl, hb'⟩
      clear c0 c1 c2 c3 c4 c5 c6 c7
      have hlt : w.heap.size < wr.heap.size := by
        rcases Nat.lt_or_ge w.heap.size wr.heap.size with h' | h'
        · exact h'
        · have := HBLK.out; simp [Array.getElem?_eq_none h'] at this
      have hbk2 : w'.heap[w.heap.size]? = some (.cells (st v) 87 (0, 0)) := (hb'.block _ hlt).trans HBLK.out
      have hbw : Below w.heap.size w w' := (HBB.out.drew).trans (hb'.mono HBB.out.size)
      have hI8 : (Tryz.prog.info? 87).map (·.size) = some (st (Sha.mix v (r.take 64))).size := by kernel_rfl
      have hcl8 := st_cells (Sha.mix v (r.take 64))
      have hmok := Sha.mix_ok v (r.take 64)
      have hsz8 : (st v).size = (st (Sha.mix v (r.take 64))).size := by simp [st]
      have hR := setRow_heap w' w.heap.size (st v) (st (Sha.mix v (r.take 64))) 87 (0, 0) hbk2
      have hBL : Below w.heap.size w (w'.setRow w.heap.size (st (Sha.mix v (r.take 64)))) := below_setRow hbw (Nat.le_refl _) _
      have hrun2 : Sha.run ((r.drop 64).length / 64) (Sha.mix v (r.take 64)) (r.drop 64) = Sha.run (pp.length / 64) Sha.iv pp := by
        rw [← hrun]
        have e1 : r.length / 64 = (r.drop 64).length / 64 + 1 := by rw [List.length_drop]; omega
        rw [e1]; rfl
      clear hb' hbw
      generalize Sha.mix v (r.take 64) = m at *
      have HR := Lib.hid hR
      have HBL := Lib.hid hBL
      have HBK := Lib.hid hbk2
      clear hR hBL hbk2
      go_wp2_with (refine wpList_store_row rfl 87 _ _ rfl w.heap.size (st m) rfl rfl 87 (st v) HBK.out hI8 hsz8 hcl8 ?_)
      go_roundw
      case rel =>
        rw [hsz] at hx2
        rw [hx2]
        exact ⟨r.drop 64, m, rfl, by rw [List.length_drop]; omega, by rw [List.length_drop]; omega, hmok, hrun2, HR.out, HBL.out⟩
      case measure =>
        rw [hsz] at hx2
        rw [hx2]
        simp only [slen, T_size, List.length_drop]
        omega
end Go.Proofs.YtjjdaelddicokaaGreatDoor
