/- A request is written, and read back. Conditions: those that each theorem names. -/
import Derived.Test.YtfibaopngpfmjaaGreatDoorRzE1
import Derived.Test.YtfibaopngpfmjaaGreatDoorRzG5
import Derived.Test.YtfibaopngpfmjaaGreatDoorRzE3
set_option linter.unusedVariables false
set_option linter.unusedSimpArgs false
set_option maxRecDepth 100000
set_option maxHeartbeats 8000000
namespace Go.Proofs.YtfibaopngpfmjaaGreatDoor
open Go.RowKit Go.Proofs
theorem flat_len {A B : Type} (l : List A) (f : A → List B) (K : Nat) (h : ∀ x ∈ l, (f x).length ≤ K) : (l.flatMap f).length ≤ K * l.length := by
 induction l with
 | nil => simp
 | cons x r ih =>
  have h1 := h x (by simp)
  have h2 := ih (fun y hy => h y (by simp [hy]))
  simp only [List.flatMap_cons, List.length_append, List.length_cons]
  rw [Nat.mul_add, Nat.mul_one]
  omega
theorem dirb_len (m : Mg) (h : DirOk m) : (dirb m).length ≤ 400 := by
 unfold dirb dirc
 rw [txt_len, List.length_append]
 have h1 : ((dnums m).flatMap knum).length ≤ 8 * (dnums m).length := flat_len _ _ 8 (fun x hx => by
  obtain ⟨j, hj, rfl⟩ := List.getElem_of_mem hx
  rw [knum_len]; exact (dn_ok m h j hj).1.2)
 have h2 : ((dtxts m).flatMap txt).length ≤ 66 * (dtxts m).length := flat_len _ _ 66 (fun x hx => by
  obtain ⟨j, hj, rfl⟩ := List.getElem_of_mem hx
  rw [txt_len]; have := dtxts_len m h j hj; omega)
 rw [dnums_len] at h1
 rw [show (dtxts m).length = 4 from rfl] at h2
 omega
theorem enc_len (m : Mg) (ns : List (List UInt8)) (c : UInt8) (hc : IsLet c) (h : LetOk m ns c) : (enc m ns c).length ≤ 20000 := by
 rcases hc with rfl | rfl | rfl | rfl | rfl | rfl | rfl | rfl | rfl | rfl | rfl | rfl | rfl | rfl | rfl | rfl | rfl | rfl
 ·show (Oct.le 1 m.mode.toNat).length ≤ 20000
  rw [Oct.le_length]; omega
 ·have h2 : m.name.length ≤ 10000 := h
  show (txt m.name).length ≤ 20000
  rw [txt_len]; omega
 ·show (Oct.le 8 m.offset.toNat).length ≤ 20000
  rw [Oct.le_length]; omega
 ·have h2 := dirb_len m h
  show (Oct.le 2 (dirb m).length ++ dirb m).length ≤ 20000
  rw [List.length_append, Oct.le_length]; omega
 ·show (Oct.le 4 m.authFid.toNat).length ≤ 20000
  rw [Oct.le_length]; omega
 ·show (Oct.le 4 m.count.toNat).length ≤ 20000
  rw [Oct.le_length]; omega
 ·have h2 : m.data.length ≤ 10000 := h
  show (Oct.le 4 m.data.length ++ m.data).length ≤ 20000
  rw [List.length_append, Oct.le_length]; omega
 ·show (Oct.le 4 m.fid.toNat).length ≤ 20000
  rw [Oct.le_length]; omega
 ·show (Oct.le 1 m.lease.toNat).length ≤ 20000
  rw [Oct.le_length]; omega
 ·show (Oct.le 4 m.msize.toNat).length ≤ 20000
  rw [Oct.le_length]; omega
 ·show (Oct.le 4 m.newFid.toNat).length ≤ 20000
  rw [Oct.le_length]; omega
 ·show (Oct.le 4 m.perm.toNat).length ≤ 20000
  rw [Oct.le_length]; omega
 ·have h2 : m.session.length ≤ 10000 := h
  show (txt m.session).length ≤ 20000
  rw [txt_len]; omega
 ·show (Oct.le 4 m.term.toNat).length ≤ 20000
  rw [Oct.le_length]; omega
 ·have h2 : m.user.length ≤ 10000 := h
  show (txt m.user).length ≤ 20000
  rw [txt_len]; omega
 ·have h2 : m.version.length ≤ 10000 := h
  show (txt m.version).length ≤ 20000
  rw [txt_len]; omega
 ·have h2 : ns.length ≤ 16 ∧ ∀ s ∈ ns, s.length ≤ 1000 := h
  show (Oct.le 2 ns.length ++ ns.flatMap txt).length ≤ 20000
  have h3 := flat_len ns txt 1002 (fun x hx => by rw [txt_len]; have := h2.2 x hx; omega)
  rw [List.length_append, Oct.le_length]; omega
 ·have h2 : m.attach.length ≤ 10000 := h
  show (txt m.attach).length ≤ 20000
  rw [txt_len]; omega
theorem layout_any (k : Int) (hk : IsReq k) (w : World) : Calls Tryz.prog 32 #[.int .i64 k] w fun e w' => e = .returned (.string (T (lay k))) ∧ w' = w := by
 rcases hk with rfl | rfl | rfl | rfl | rfl | rfl | rfl | rfl | rfl | rfl | rfl | rfl | rfl | rfl
 all_goals
  simp only [lay]
  go_enter Tryz.func32, Tryz.ntmps32
  go_wp2_with fail
  go_ret
  exact ⟨rfl, rfl⟩
theorem ite_len {p : Prop} [Decidable p] {a b : List UInt8} (ha : a.length ≤ 4) (hb : b.length ≤ 4) : (if p then a else b).length ≤ 4 := by split <;> assumption
theorem lay_len (k : Int) : (lay k).length ≤ 4 := by
 unfold lay
 repeat (first | exact Nat.zero_le 4 | refine ite_len (by decide) ?_)
/-- What Put returns: an error and no bytes, or the bytes of a valid request. -/
def PutG (w : World) (m : Mg) (ns : List (List UInt8)) (qs : List (Int × Int × Int)) (e : Ending) (w' : World) : Prop :=
 ((∃ k, k ≠ 0 ∧ e = .returned (.tuple #[.string (T []), .int .i64 k])) ∨ ((Chk m ns qs ∧ (reqc m ns).length + 4 ≤ 8192) ∧ e = .returned (.tuple #[.string (T (reqb m ns)), .int .i64 0]))) ∧ Below w.heap.size w w'
theorem putg_err {w w' : World} {m : Mg} {ns : List (List UInt8)} {qs : List (Int × Int × Int)} (k : Int) (hk : k ≠ 0) (h : Below w.heap.size w w') : PutG w m ns qs (.returned (.tuple #[.string (T []), .int .i64 k])) w' := ⟨Or.inl ⟨k, hk, rfl⟩, h⟩
theorem putg_ok {w w' : World} {m : Mg} {ns : List (List UInt8)} {qs : List (Int × Int × Int)} (hc : Chk m ns qs) (hl : (reqc m ns).length + 4 ≤ 8192) (h : Below w.heap.size w w') : PutG w m ns qs (.returned (.tuple #[.string (T (reqb m ns)), .int .i64 0])) w' := ⟨Or.inr ⟨⟨hc, hl⟩, rfl⟩, h⟩
theorem mput_any (m : Mg) (ns : List (List UInt8)) (qs : List (Int × Int × Int)) (w : World) (hk : IsReq m.kind) (hm : MgIn w m ns qs) :
  Calls Tryz.prog 71 #[.agg m.cs.toArray] w (PutG w m ns qs) := by
 have HB := lh (alloc_below w (mgobj m))
 have H1 := lh (heap_alloc_new w (mgobj m))
 have HCK := lh (fun (W : World) (h : Below w.heap.size w W) => mcheck_any m ns qs W hk (hm.below h))
 have HE := lh (fun (k : Int) (W : World) (hk : k ≠ 0) (h : Below w.heap.size w W) => putg_err (m := m) (ns := ns) (qs := qs) k hk h)
 have HO := lh (fun (W : World) (hc : Chk m ns qs) (hl : (reqc m ns).length + 4 ≤ 8192) (h : Below w.heap.size w W) => putg_ok hc hl h)
 have HN1 := lh (fun (g : Nat) (W : World) (h : WrRow W g []) => show Calls Tryz.prog 126 #[.pointer (some ⟨g, 0, none⟩), .int .i64 m.kind, .int .i64 1] W fun e w' => e = .returned (.tuple #[]) ∧ WrRow w' g (Oct.le 1 m.kind.toNat) ∧ W.grownBy w' (some g) from wnum_any g [] m.kind 1 W h (by simp) (by omega) (by omega) (by unfold IsReq at hk; omega) (by unfold IsReq at hk; omega))
 have HN2 := lh (fun (hc : Chk m ns qs) (g : Nat) (W : World) (h : WrRow W g (Oct.le 1 m.kind.toNat)) => show Calls Tryz.prog 126 #[.pointer (some ⟨g, 0, none⟩), .int .i64 m.tag, .int .i64 2] W fun e w' => e = .returned (.tuple #[]) ∧ WrRow w' g (Oct.le 1 m.kind.toNat ++ Oct.le 2 m.tag.toNat) ∧ W.grownBy w' (some g) from
  have ht : 0 ≤ m.tag ∧ m.tag ≤ 65535 := by have := hc.1; unfold TagOk at this; split at this <;> omega
  wnum_any g (Oct.le 1 m.kind.toNat) m.tag 2 W h (by rw [Oct.le_length]; omega) (by omega) (by omega) ht.1 (by omega))
 have HFI := lh (fun (hc : Chk m ns qs) (j : Nat) (hj : j < (lay m.kind).length) (g : Nat) (s : List UInt8) (W : World) (h : WrRow W g s) (hl : s.length ≤ 600000) (hb : Below w.heap.size w W) (hg : w.heap.size ≤ g) =>
  wfld_any (lay m.kind)[j] (lay_let m.kind hk _ (List.getElem_mem hj)) g s m ns W h hl (lay_ok m ns hk hc.2.2 _ (List.getElem_mem hj)) ((hm.below hb).1) ⟨w, hm.1, hg⟩ (fun hd => by have := dirb_len m hd; omega))
 have HEL := lh (fun (hc : Chk m ns qs) (j : Nat) (hj : j < (lay m.kind).length) => enc_len m ns (lay m.kind)[j] (lay_let m.kind hk _ (List.getElem_mem hj)) (lay_ok m ns hk hc.2.2 _ (List.getElem_mem hj)))
 have HLY := lh (fun W => layout_any m.kind hk W)
 have hll := lay_len m.kind
 have HPS := lh (fun (n : Nat) (W : World) (h : n ≤ 8192) => show Calls Tryz.prog 128 #[.int .i64 (n : Int), .int .i64 4] W fun e w' => e = .returned (.tuple #[.string (T (Oct.le 4 n)), .int .i64 0]) ∧ Below W.heap.size W w' from by
  have := put_num n 4 W (by omega) (by omega) (by omega) (by omega)
  rw [Int.toNat_natCast] at this
  exact this)
 have HC := lh (show ∀ W : World, W.heap[w.heap.size]? = some (mgobj m) → W.cell? ⟨w.heap.size, 0, none⟩ = some (.int .i64 m.kind) ∧ W.cell? ⟨w.heap.size, 1, none⟩ = some (.int .i64 m.tag) ∧ W.rangeAt w.heap.size 0 m.cs from fun W h => ⟨by rw [Lib.cell_of_heap h]; rfl, by rw [Lib.cell_of_heap h]; rfl, rng_of h⟩)
 have HU := lh (Tryz.underlying48)
 have HSZ := lh (mg_size m)
 have HSL : RowKit.Hid ((Tryz.prog.info? 48).map (·.size) = some m.cs.length) := lh (by kernel_rfl)
 have HRC : RowKit.Hid (reqc m ns = Oct.le 1 m.kind.toNat ++ Oct.le 2 m.tag.toNat ++ (lay m.kind).flatMap (enc m ns)) := lh rfl
 have HRB : RowKit.Hid (reqb m ns = Oct.le 4 ((reqc m ns).length + 4) ++ reqc m ns) := lh rfl
 have hp2 : (Oct.le 1 m.kind.toNat ++ Oct.le 2 m.tag.toNat).length = 3 := by rw [List.length_append, Oct.le_length, Oct.le_length]
 unfold mgobj at *
 clear hk hm
 generalize Chk m ns qs = QC at *
 generalize reqb m ns = RB at *
 generalize reqc m ns = RC at *
 generalize enc m ns = en at *
 generalize m.cs = cs at *
 generalize Oct.le 1 m.kind.toNat ++ Oct.le 2 m.tag.toNat = P2 at *
 generalize Oct.le 1 m.kind.toNat = P1 at *
 generalize lay m.kind = L at *
 generalize m.kind = kd at *
 generalize m.tag = tg at *
 go_enter Tryz.func71, Tryz.ntmps71
 go_upto_region 1 with fail
 generalize World.alloc _ _ = w1 at *
 go_wp2_with (refine wpList_load_row rfl 48 _ rfl w.heap.size rfl 48 cs.toArray (0, 0) _ H1.out HU.out rfl HSZ.out ?_)
 have hb1 := HB.out
 (with_reducible refine (HCK.out _ hb1).mono ?_); rintro e w2 ⟨ck, rfl, hck, b2⟩
 have H2 := lh ((b2.block _ (row_ltP H1.out)).trans H1.out)
 have HB2 := lh (bnext HB.out b2)
 clear b2 H1 HB HCK hb1
 by_cases hc0 : ck = 0
 rotate_left
 ·have ht : (ck != 0) = true := by simp [hc0]
  have HX := lh hc0
  clear hc0 hck
  go_wp2_with fail
  go_ret2
  exact HE.out _ _ HX.out HB2.out
 have HQC := lh (hck.1 hc0)
 subst hc0
 clear hck
 obtain ⟨c0, c1, _⟩ := HC.out _ H2.out
 go_upto_region 5 with fail
 have HW3 := lh (show WrRow (w2.alloc (.cells #[.string (T []), .int .i64 0] 182)) w2.heap.size [] from heap_alloc_new w2 _)
 have HB3 := lh (bnext HB2.out (alloc_below w2 (.cells #[.string (T []), .int .i64 0] 182)))
 have H3 := lh ((Lib.alloc_old w2 (.cells #[.string (T []), .int .i64 0] 182) _ (row_ltP H2.out)).trans H2.out)
 have hg : w.heap.size < w2.heap.size := row_ltP H2.out
 clear H2 HB2 c0 c1
 generalize World.alloc _ _ = w3 at *
 generalize w2.heap.size = g at *
 obtain ⟨c0, c1, _⟩ := HC.out _ H3.out
 go_wp2_with fail
 have hw3 := HW3.out
 (with_reducible refine (HN1.out _ _ hw3).mono ?_); rintro e w4 ⟨rfl, hw4, g4⟩
 have HW4 := lh hw4
 have H4 := lh ((g4.block _ (row_ltP H3.out) (fun e => by cases e; omega)).trans H3.out)
 have HB4 := lh (show Below w.heap.size w w4 from HB3.out.trans ((below_of_grown g4 (row_ltP hw3)).mono (by omega)))
 clear hw3 hw4 g4 HW3 H3 HB3 c0 c1 HN1
 obtain ⟨c0, c1, _⟩ := HC.out _ H4.out
 go_wp2_with fail
 have hw4 := HW4.out
 (with_reducible refine (HN2.out HQC.out _ _ hw4).mono ?_); rintro e w5 ⟨rfl, hw5, g5⟩
 have HW5 := lh hw5
 have H5 := lh ((g5.block _ (row_ltP H4.out) (fun e => by cases e; omega)).trans H4.out)
 have HB5 := lh (show Below w.heap.size w w5 from HB4.out.trans ((below_of_grown g5 (row_ltP hw4)).mono (by omega)))
 clear hw4 hw5 g5 HW4 H4 HB4 c0 c1 HN2
 obtain ⟨c0, c1, _⟩ := HC.out _ H5.out
 go_wp2_with fail
 (with_reducible refine (HLY.out _).mono ?_); rintro e w6 ⟨rfl, rfl⟩
 have hsz : (T L).size = L.length := T_size L
 clear HLY c0 c1
 go_wp2_with fail
 go_loopg [30] L.length (fun k i W => ∃ j : Nat, j ≤ L.length ∧ i = .int .i64 (j : Int) ∧ (WrRow W g (P2 ++ (L.take j).flatMap en) ∧ W.heap[w.heap.size]? = some (.cells cs.toArray 48) ∧ Below w.heap.size w W ∧ ((L.take j).flatMap en).length ≤ 20000 * j) ∧ k = L.length - j)
 case atStart => exact ⟨0, by omega, rfl, ⟨by simpa using HW5.out, H5.out, HB5.out, by simp⟩, rfl⟩
 case round =>
  obtain ⟨j, hj, rfl, ⟨hw, hst, hbb, hle⟩, hk⟩ := hrel
  have HW6 := lh hw
  have H6 := lh hst
  have HB6 := lh hbb
  have HK := lh hk
  clear hw hst hbb hk HW5 H5 HB5
  by_cases hlt : j < L.length
  ·have hki : (j : Int) < L.length := by omega
   have e1 := take_flat L en j hlt
   have hel := HEL.out HQC.out j hlt
   have hlen2 : ((L.take (j + 1)).flatMap en).length ≤ 20000 * (j + 1) := by rw [e1, List.length_append]; omega
   have HLN := lh hlen2
   have HCT := lh (show (P2 ++ (L.take j).flatMap en) ++ en L[j] = P2 ++ (L.take (j + 1)).flatMap en from by rw [e1, List.append_assoc])
   have hq : (P2 ++ (L.take j).flatMap en).length ≤ 600000 := by rw [List.length_append]; omega
   have HFJ := lh (fun (W : World) (h : WrRow W g (P2 ++ (L.take j).flatMap en)) (hb : Below w.heap.size w W) => HFI.out HQC.out j hlt g _ W h hq hb (by omega))
   have hx : (T L)[j]'(by rw [T_size]; exact hlt) = L[j] := rfl
   clear e1 hel hlen2 hle hq HFI HEL HPS HRC HRB
   generalize P2 ++ (L.take j).flatMap en = q at *
   generalize L[j] = c at *
   go_upto_region 11 with fail
   have H7 := lh (((below_drew1 wr).block _ (row_ltP H6.out)).trans H6.out)
   have HB7 := lh (bnext HB6.out (below_drew1 wr))
   have HW7 := lh (HW6.out.next (below_drew1 wr))
   have hr7 := (HC.out _ H7.out).2.2
   clear H6 HB6 HW6
   refine wp_region_held_drew (S := (fun W' => W'.rangeAt w.heap.size 0 cs)) (by kernel_rfl) hr7 (fun hHeld => ?_)
   refine tk 0 33 ?_
   refine tkY (v := .agg cs.toArray) 1 34 rfl (yieldsIf_load_mid (by rfl) 48 (.tmp 1) rfl w.heap.size 0 (by rfl) cs _ (fun _ h => h) HU.out rfl HSL.out) ?_
   refine tk 2 35 ?_
   refine tk 3 36 ?_
   refine tk 4 37 ?_
   refine rdy 5 (fun K hK => ?_)
   go_simp
   have hw7 := HW7.out
   have hb7 := HB7.out
   go_wp2_with (go_at_call 127; (with_reducible refine (HFJ.out _ hw7 hb7).mono ?_); rintro e w8 ⟨rfl, hw8, g8⟩)
   rw [HCT.out] at hw8
   have HW8 := lh hw8
   have H8 := lh ((g8.block _ (row_ltP H7.out) (fun e => by cases e; omega)).trans H7.out)
   have HB8 := lh (show Below w.heap.size w w8 from HB7.out.trans ((below_of_grown g8 (row_ltP hw7)).mono (by omega)))
   clear hw7 hb7 hw8 g8 HW7 HB7
   refine hK.out _ _ (HC.out _ H8.out).2.2 (fun hHeld => ?_)
   clear hK K
   try simp only [Act.put, px1, px2, px3]
   refine wpAnyH_done (by kernel_rfl) ?_ _
   clear hHeld
   go_wp2_with fail
   have hk := HK.out
   go_roundg (L.length - (j + 1))
   case measure => omega
   case rel => exact ⟨j + 1, by omega, by go_num, ⟨HW8.out, H8.out, HB8.out, HLN.out⟩, rfl⟩
  ·obtain rfl : j = L.length := by omega
   have hP : P2 ++ (L.take L.length).flatMap en = RC := by rw [List.take_length, HRC.out]
   have hrl : RC.length ≤ 200000 := by rw [← hP, List.length_append]; omega
   have HW7 := lh (show WrRow wr g RC from by have := HW6.out; rw [hP] at this; exact this)
   clear hP hle HK HW6 HFI HEL HRC H6
   have hrs : (T RC).size = RC.length := T_size RC
   obtain ⟨⟨x0, x1⟩, y0, y1⟩ := HW7.out.reads
   by_cases hbig : RC.length + 4 ≤ 8192
   rotate_left
   ·have k1 : (8192 : Int) < (RC.length : Int) + 4 := by omega
    clear hbig
    go_wp2_with fail
    go_ret2
    exact HE.out _ _ (by omega) HB6.out
   have k1 : decide ((8192 : Int) < (RC.length : Int) + 4) = false := decide_eq_false (by omega)
   have HPN := lh (fun W => show Calls Tryz.prog 128 #[.int .i64 ((RC.length : Int) + 4), .int .i64 4] W fun e w' => e = .returned (.tuple #[.string (T (Oct.le 4 (RC.length + 4))), .int .i64 0]) ∧ Below W.heap.size W w' from by
    have := HPS.out (RC.length + 4) W hbig
    rw [show ((RC.length + 4 : Nat) : Int) = (RC.length : Int) + 4 from by omega] at this
    exact this)
   have hll4 : (Oct.le 4 (RC.length + 4)).length = 4 := Oct.le_length _ _
   have HBG := lh hbig
   clear HPS hbig
   generalize Oct.le 4 (RC.length + 4) = LP at *
   have hcat : ¬ 9223372036854775807 < LP.length + RC.length := by omega
   go_wp2_with fail
   (with_reducible refine (HPN.out _).mono ?_); rintro e w8 ⟨rfl, b8⟩
   have HW8 := lh (HW7.out.next b8)
   have HB8 := lh (bnext HB6.out b8)
   clear b8 x0 x1 y0 y1 HW7 HB6
   obtain ⟨⟨x0, x1⟩, y0, y1⟩ := HW8.out.reads
   go_wp2_with fail
   go_ret2
   have := HO.out _ HQC.out HBG.out HB8.out
   rw [HRB.out, ← T_append] at this
   exact this
theorem setfb_bare (m x : Mg) (c : UInt8) : (setfb m x c).bare = setfb m x.bare c := by
 by_cases hc : IsLet c
 ·rcases hc with rfl | rfl | rfl | rfl | rfl | rfl | rfl | rfl | rfl | rfl | rfl | rfl | rfl | rfl | rfl | rfl | rfl | rfl <;> rfl
 ·unfold IsLet at hc
  simp only [not_or] at hc
  simp [setfb, hc]
/-- A message without qids, and a change of a block that does not hold its names. -/
theorem MgIn.grown {w w' : World} {m : Mg} {ns : List (List UInt8)} {b : Nat} (h : MgIn w m ns []) (hg : w.grownBy w' (some b)) (hb : ∀ ad n k, m.names = .slice (some ad) n k → ad.block ≠ b) : MgIn w' m ns [] := by
 refine ⟨?_, ?_, h.2.2⟩
 ·exact h.1.gr2 (g := b) (p := b) (fun ad n k e => ⟨hb ad n k e, hb ad n k e⟩) (Gr2.of_g hg)
 ·obtain ⟨ao, cap, e, hc, hn, _⟩ := h.2.1
  exact ⟨ao, cap, e, hc, hn, fun j hj => absurd hj (by simp)⟩
/-- The state of Get. -/
def GtSt (w W : World) (g p : Nat) (s : List UInt8) (m : Mg) (ns : List (List UInt8)) (L : List UInt8) (j : Nat) (x : Mg) : Prop :=
 RdRow W g s (7 + ((L.take j).flatMap (enc m ns)).length) ∧ W.heap[p]? = some (mgobj x) ∧ W.heap[w.heap.size]? = some (mgobj mg0) ∧ (x.bare = (L.take j).foldl (setfb m) { mg0 with kind := m.kind, tag := m.tag } ∧ x.qids = .slice none 0 0 ∧ Txs W x.names (if 119 ∈ L.take j then ns else []) ∧ ∀ ad n k, x.names = .slice (some ad) n k → g < ad.block ∧ p < ad.block) ∧ Below w.heap.size w W
theorem GtSt.step {w W W' : World} {g p : Nat} {s : List UInt8} {m : Mg} {ns : List (List UInt8)} {L : List UInt8} {j : Nat} {x : Mg} {e : Ending} (h : GtSt w W g p s m ns L j x) (hj : j < L.length) (hg : w.heap.size < g) (hp : g < p)
  (hr : RfSay g p s (7 + ((L.take j).flatMap (enc m ns)).length) x m ns L[j] W e W') : ∃ x', e = .returned (.tuple #[]) ∧ GtSt w W' g p s m ns L (j + 1) x' := by
 obtain ⟨h1, h2, h3, ⟨h4, h5, h6, h7⟩, h8⟩ := h
 obtain ⟨x', rfl, r1, r2, ⟨r3, r4, r5, r6⟩, r7⟩ := hr
 have hgl := row_ltP h1
 have hpl := row_ltP h2
 refine ⟨x', rfl, ?_, r2, ?_, ⟨?_, r4.trans h5, ?_, ?_⟩, h8.trans (r7.below (by omega) (by omega) h8.size)⟩
 ·rw [take_flat L (enc m ns) j hj, List.length_append, ← Nat.add_assoc]
  exact r1
 ·exact (r7.2.2 _ (by omega) (by omega) (by omega)).trans h3
 ·rw [r3, setfb_bare, h4, List.take_succ_eq_append_getElem hj, List.foldl_append]
  rfl
 ·by_cases hc : L[j] = 119
  ·rw [if_pos (by rw [List.take_succ_eq_append_getElem hj, hc]; simp)]
   exact (r5 hc).1
  ·have hm : (119 ∈ L.take (j + 1)) = (119 ∈ L.take j) := by
    rw [List.take_succ_eq_append_getElem hj]
    simp only [List.mem_append, List.mem_singleton, eq_iff_iff]
    exact ⟨fun h => h.elim id (fun e => absurd e.symm hc), Or.inl⟩
   simp only [hm]
   rw [r6 hc]
   exact h6.gr2 (fun ad n k e => by have := h7 ad n k e; omega) r7
 ·by_cases hc : L[j] = 119
  ·intro ad n k e
   have := (r5 hc).2 ad n k e
   omega
  ·rw [r6 hc]
   exact h7
theorem mget_any (m : Mg) (ns : List (List UInt8)) (qs : List (Int × Int × Int)) (w : World) (hk : IsReq m.kind) (hm : MgIn w m ns qs) (hc : Chk m ns qs) (hlen : (reqc m ns).length + 4 ≤ 8192) :
  Calls Tryz.prog 12 #[.string (T (reqb m ns)), .int .i64 0] w fun e w' => ∃ x, e = .returned (.tuple #[.agg x.cs.toArray, .int .i64 ((reqb m ns).length : Int), .int .i64 0]) ∧ (x.bare = m.bare ∧ MgIn w' x ns qs) ∧ Below w.heap.size w w' := by
 obtain ⟨hback, hns, rfl⟩ := chk_back m ns qs hk hc
 have hll := lay_len m.kind
 have hbl : (reqb m ns).length = (reqc m ns).length + 4 := by unfold reqb; rw [List.length_append, Oct.le_length]; omega
 have hcl : (reqc m ns).length = 3 + ((lay m.kind).flatMap (enc m ns)).length := by unfold reqc; rw [List.length_append, List.length_append, Oct.le_length, Oct.le_length]
 have hkr : 0 ≤ m.kind ∧ m.kind ≤ 130 := by unfold IsReq at hk; omega
 have htr : 0 ≤ m.tag ∧ m.tag ≤ 65535 := by have := hc.1; unfold TagOk at this; split at this <;> omega
 have hat0 : At (reqb m ns) 0 (Oct.le 4 ((reqc m ns).length + 4) ++ (Oct.le 1 m.kind.toNat ++ (Oct.le 2 m.tag.toNat ++ (lay m.kind).flatMap (enc m ns)))) := ⟨[], [], by simp [reqb, reqc], rfl⟩
 have hat1 := hat0.right
 rw [Oct.le_length] at hat1
 have hat2 := hat1.right
 rw [Oct.le_length] at hat2
 have hat3 := hat2.right
 rw [Oct.le_length] at hat3
 obtain ⟨z1, z2⟩ := at_num hat0.left (by omega) (by omega) (by omega) (by omega)
 have HG := lh (fun W => show Calls Tryz.prog 30 #[.string (T (reqb m ns)), .int .i64 0, .int .i64 4] W fun e w' => e = .returned (.tuple #[.int .i64 ((reqb m ns).length : Int), .int .i64 4, .int .i64 0]) ∧ w' = W from by
  have := get_num (reqb m ns) 0 4 W (by omega) (by omega) (by omega) (by omega) z1
  rw [z2, ← hbl] at this
  exact this)
 have HN1 := lh (fun (g : Nat) (W : World) (h : RdRow W g (reqb m ns) 4) => show Calls Tryz.prog 31 #[.pointer (some ⟨g, 0, none⟩), .int .i64 1] W fun e w' => e = .returned (.int .i64 m.kind) ∧ RdRow w' g (reqb m ns) 5 ∧ W.grownBy w' (some g) from by
  have := rnumv_any g (reqb m ns) 4 1 m.kind.toNat W h hat1.left (by omega) (by omega) (by omega) (by omega) (by omega)
  rw [show ((m.kind.toNat : Nat) : Int) = m.kind from by omega] at this
  exact this)
 have HN2 := lh (fun (g : Nat) (W : World) (h : RdRow W g (reqb m ns) 5) => show Calls Tryz.prog 31 #[.pointer (some ⟨g, 0, none⟩), .int .i64 2] W fun e w' => e = .returned (.int .i64 m.tag) ∧ RdRow w' g (reqb m ns) 7 ∧ W.grownBy w' (some g) from by
  have := rnumv_any g (reqb m ns) 5 2 m.tag.toNat W h hat2.left (by omega) (by omega) (by omega) (by omega) (by omega)
  rw [show ((m.tag.toNat : Nat) : Int) = m.tag from by omega] at this
  exact this)
 have HFI := lh (fun (j : Nat) (hj : j < (lay m.kind).length) (g p : Nat) (x : Mg) (W : World) (hg : w.heap.size < g) (hp : g < p) (h : GtSt w W g p (reqb m ns) m ns (lay m.kind) j x) =>
  show Calls Tryz.prog 33 #[.pointer (some ⟨g, 0, none⟩), .pointer (some ⟨p, 0, none⟩), .int .u8 ((lay m.kind)[j].toNat : Int)] W fun e w' => ∃ x', e = .returned (.tuple #[]) ∧ GtSt w w' g p (reqb m ns) m ns (lay m.kind) (j + 1) x' from
  (rfld_any (lay m.kind)[j] (lay_let m.kind hk _ (List.getElem_mem hj)) g p (reqb m ns) _ x m ns W h.1 h.2.1 (by omega) ⟨h.2.2.2.1.2.2.1.form, ⟨_, _, _, h.2.2.2.1.2.1⟩⟩ (hat3.flat j hj) (lay_ok m ns hk hc.2.2 _ (List.getElem_mem hj)) (by omega)).mono (fun e w' hr => h.step hj hg hp hr))
 have HST := lh (fun (g p : Nat) (W : World) (h1 : RdRow W g (reqb m ns) 7) (h2 : W.heap[p]? = some (mgobj { mg0 with kind := m.kind, tag := m.tag })) (h3 : W.heap[w.heap.size]? = some (mgobj mg0)) (hb : Below w.heap.size w W) => (show GtSt w W g p (reqb m ns) m ns (lay m.kind) 0 { mg0 with kind := m.kind, tag := m.tag } from ⟨by simpa using h1, h2, h3, ⟨rfl, rfl, by rw [List.take_zero, if_neg (by simp)]; exact Txs.nil W, fun ad n k e => by cases e⟩, hb⟩))
 have HEN := lh (fun (g p : Nat) (x : Mg) (W : World) (hg : w.heap.size < g) (h : GtSt w W g p (reqb m ns) m ns (lay m.kind) (lay m.kind).length x) => show RdRow W g (reqb m ns) (reqb m ns).length ∧ W.heap[p]? = some (mgobj x) ∧ W.heap[w.heap.size]? = some (mgobj mg0) ∧ ((x.bare = m.bare ∧ MgIn W x ns []) ∧ ∀ ad n k, x.names = .slice (some ad) n k → ad.block ≠ w.heap.size) ∧ Below w.heap.size w W from by
  obtain ⟨h1, h2, h3, ⟨h4, h5, h6, h7⟩, h8⟩ := h
  rw [List.take_length] at h1 h4 h6
  have hxb : x.bare = m.bare := h4.trans hback
  have hnm : x.name = m.name := show x.bare.name = m.bare.name from by rw [hxb]
  have hsn : x.sn = m.sn := show x.bare.sn = m.bare.sn from by rw [hxb]
  have hif : (if 119 ∈ lay m.kind then ns else []) = ns := by
   split
   ·rfl
   ·rename_i hh; exact (hns hh).symm
  rw [hif] at h6
  refine ⟨?_, h2, h3, ⟨⟨hxb, h6, ?_, hm.2.2.1, hm.2.2.2.1, hm.2.2.2.2.1, by rw [hnm]; exact hm.2.2.2.2.2.1, by rw [hsn]; exact hm.2.2.2.2.2.2⟩, fun ad n k e => by have := h7 ad n k e; omega⟩, h8⟩
  ·rw [hbl, hcl, show 3 + ((lay m.kind).flatMap (enc m ns)).length + 4 = 7 + ((lay m.kind).flatMap (enc m ns)).length from by omega]
   exact h1
  ·rw [h5]; exact Qds.nil W)
 have HCK := lh (fun (x : Mg) (W : World) (h : x.bare = m.bare ∧ MgIn W x ns []) => show Calls Tryz.prog 35 #[.agg x.cs.toArray] W fun e w' => e = .returned (.int .i64 0) ∧ Below W.heap.size W w' from
  (mcheck_any x ns [] W (by rw [show x.kind = m.kind from show x.bare.kind = m.bare.kind from by rw [h.1]]; exact hk) h.2).mono fun e w' hr => by
   obtain ⟨k, h1, h2, h3⟩ := hr
   rw [h2.2 (chk_same m x ns [] h.1.symm hc)] at h1
   exact ⟨h1, h3⟩)
 have HXK := lh (fun (x : Mg) (W : World) (p : Nat) (hb : x.bare = m.bare) (h : W.heap[p]? = some (mgobj x)) => show W.cell? ⟨p, 0, none⟩ = some (.int .i64 m.kind) from by
  have e : x.kind = m.kind := show x.bare.kind = m.bare.kind from by rw [hb]
  rw [Lib.cell_of_heap h, ← e]; rfl)
 have HLY := lh (fun W => layout_any m.kind hk W)
 have hk2 : m.kind % 2 = 0 := by unfold IsReq at hk; omega
 have HNM := lh (fun W => show Calls Tryz.prog 34 #[.int .i64 m.kind] W fun e w' => ∃ nm, e = .returned (.string (T nm)) ∧ nm.isEmpty = false ∧ Below W.heap.size W w' from
  (namev_any m.kind hk2 W).mono fun e w' hr => by
   obtain ⟨nm, h1, h2, h3⟩ := hr
   have h4 := h2.2 hk
   exact ⟨nm, h1, by cases nm; exact absurd rfl h4; rfl, h3⟩)
 have HU := lh (Tryz.underlying48)
 have HSZ0 := lh (mg_size { mg0 with kind := m.kind, tag := m.tag })
 have HSY0 : RowKit.Hid (mg0.cs.toArray.size = ({ mg0 with kind := m.kind, tag := m.tag } : Mg).cs.toArray.size) := lh rfl
 have HAL0 := lh (mg_all { mg0 with kind := m.kind, tag := m.tag } ⟨⟨_, _, _, rfl⟩, ⟨_, _, _, rfl⟩⟩)
 have HBU : RowKit.Hid (Tryz.prog.built 48 [(0, .int .i64 m.kind), (1, .int .i64 m.tag)] = some ({ mg0 with kind := m.kind, tag := m.tag } : Mg).cs.toArray) := lh (by kernel_rfl)
 have HK0 := lh (fun (W : World) (p : Nat) (h : W.heap[p]? = some (mgobj { mg0 with kind := m.kind, tag := m.tag })) => show W.cell? ⟨p, 0, none⟩ = some (.int .i64 m.kind) from by rw [Lib.cell_of_heap h]; rfl)
 have HSZX := lh (fun x : Mg => mg_size x)
 have HALX := lh (fun (x : Mg) (h : x.ok) => mg_all x h)
 have hsz : (T (reqb m ns)).size = (reqb m ns).length := T_size _
 have HEX : RowKit.Hid ((T (reqb m ns)).extract 0 (reqb m ns).length = T (reqb m ns)) := lh (by rw [← hsz]; exact ByteArray.extract_zero_size)
 have hb1 : ((reqb m ns).length : Int) ≤ 8192 := by omega
 have hb2 : (7 : Int) ≤ (reqb m ns).length := by omega
 clear hback hns hbl hcl hkr htr hat0 hat1 hat2 hat3 z1 z2 hk hm hc hlen hk2
 unfold mgobj at *
 generalize ({ mg0 with kind := m.kind, tag := m.tag } : Mg).cs.toArray = A0 at *
 generalize hrb : reqb m ns = cb at *
 generalize hla : lay m.kind = L at *
 go_enter Tryz.func12, Tryz.ntmps12
 have h1 := heap_alloc_new w (.cells mg0.cs.toArray 48)
 go_upto_region 1 with fail
 generalize hw1 : World.alloc _ _ = w1
 have HB1 := lh (show Below w.heap.size w w1 from by rw [← hw1]; exact alloc_below w _)
 have K1 := lh (show w1.heap[w.heap.size]? = some (.cells mg0.cs.toArray 48) from by rw [← hw1]; exact h1)
 clear h1 hw1
 go_wp2_with fail
 (with_reducible refine (HG.out _).mono ?_); rintro e wx ⟨rfl, rfl⟩
 have j1 : decide ((8192 : Int) < cb.length) = false := decide_eq_false (by omega)
 have j2 : decide ((cb.length : Int) < 7) = false := decide_eq_false (by omega)
 go_upto_region 11 with fail
 rw [HEX.out]
 have hr := heap_alloc_new wx (.cells #[.string (T cb), .int .i64 4, .bool true] 87)
 have HR2 := lh (show RdRow (wx.alloc (.cells #[.string (T cb), .int .i64 4, .bool true] 87)) wx.heap.size cb 4 from hr)
 have b2 := alloc_below wx (.cells #[.string (T cb), .int .i64 4, .bool true] 87)
 have HB2 := lh (bnext HB1.out b2)
 have K2 := lh ((b2.block _ (row_ltP K1.out)).trans K1.out)
 have hg0 : w.heap.size < wx.heap.size := row_ltP K1.out
 clear hr b2 HB1 K1
 generalize World.alloc wx _ = w2 at *
 generalize wx.heap.size = g at *
 go_wp2_with fail
 have hr2 := HR2.out
 (with_reducible refine (HN1.out _ _ hr2).mono ?_); rintro e w3 ⟨rfl, hr3, g3⟩
 have HR3 := lh hr3
 have K3 := lh ((g3.block _ (row_ltP K2.out) (fun e => by have := Option.some.inj e; omega)).trans K2.out)
 have HB3 := lh (HB2.out.trans ((below_of_grown g3 (row_ltP hr2)).mono (by omega)))
 clear hr2 hr3 g3 HR2 K2 HB2 HN1
 go_wp2_with fail
 have hr3 := HR3.out
 (with_reducible refine (HN2.out _ _ hr3).mono ?_); rintro e w4 ⟨rfl, hr4, g4⟩
 have HR4 := lh hr4
 have K4 := lh ((g4.block _ (row_ltP K3.out) (fun e => by have := Option.some.inj e; omega)).trans K3.out)
 have HB4 := lh (HB3.out.trans ((below_of_grown g4 (row_ltP hr3)).mono (by omega)))
 clear hr3 hr4 g4 HR3 K3 HB3 HN2
 have hz4 := heap_alloc_new w4 (.cells mg0.cs.toArray 48)
 go_upto_region 12 with (first | refine wpList_build_at rfl 48 _ rfl A0 (by simp only [List.map_toArray, List.map_cons, List.map_nil]; exact HBU.out) ?_ | refine wpList_store_row rfl 48 _ _ rfl w4.heap.size A0 rfl rfl 48 mg0.cs.toArray hz4 HSZ0.out HSY0.out HAL0.out ?_)
 generalize hw5 : World.setRow _ _ _ = w5
 have b5 := (show Below w4.heap.size w4 w5 from by rw [← hw5]; exact below_setRow (alloc_below w4 _) (Nat.le_refl _) _)
 have KP5 := lh (show w5.heap[w4.heap.size]? = some (.cells A0 48) from by rw [← hw5]; exact heap_setRow_same (heap_alloc_new w4 _))
 clear hw5 hz4
 have HR5 := lh (HR4.out.next b5)
 have K5 := lh ((b5.block _ (row_ltP K4.out)).trans K4.out)
 have HB5 := lh (bnext HB4.out b5)
 have hg1 : g < w4.heap.size := row_ltP HR4.out
 clear b5 HR4 K4 HB4
 generalize w4.heap.size = p at *
 have c0 := HK0.out w5 p KP5.out
 have HS5 := lh (HST.out g p w5 HR5.out KP5.out K5.out HB5.out)
 clear HST HR5 KP5 K5 HB5 HBU HSZ0 HSY0 HAL0 HK0
 go_wp2_with fail
 (with_reducible refine (HLY.out _).mono ?_); rintro e wy ⟨rfl, rfl⟩
 have hszl : (T L).size = L.length := T_size L
 clear c0 HLY
 go_wp2_with fail
 go_loopg [61] L.length (fun k i W => ∃ j : Nat, j ≤ L.length ∧ i = .int .i64 (j : Int) ∧ (∃ x, GtSt w W g p cb m ns L j x) ∧ k = L.length - j)
 case atStart => exact ⟨0, by omega, rfl, ⟨_, HS5.out⟩, rfl⟩
 case round =>
  obtain ⟨j, hj, rfl, ⟨x, hst⟩, hk⟩ := hrel
  have HS6 := lh hst
  have HK := lh hk
  clear hst hk HS5
  by_cases hlt : j < L.length
  ·have hki : (j : Int) < L.length := by omega
   have hx : (T L)[j]'(by rw [T_size]; exact hlt) = L[j] := rfl
   have HFJ := lh (fun W h => HFI.out j hlt g p x W hg0 hg1 h)
   clear HFI HEN HCK HXK
   generalize L[j] = c at *
   go_wp2_with fail
   have hs6 := HS6.out
   (with_reducible refine (HFJ.out _ hs6).mono ?_); rintro e w6 ⟨x', rfl, hs7⟩
   have HS7 := lh hs7
   clear hs6 hs7 HS6 HFJ
   go_wp2_with fail
   have hk := HK.out
   go_roundg (L.length - (j + 1))
   case measure => omega
   case rel => exact ⟨j + 1, by omega, by go_num, ⟨x', HS7.out⟩, rfl⟩
  ·obtain rfl : j = L.length := by omega
   obtain ⟨hr6, kp6, k6, ⟨hx6, hnb⟩, hb6⟩ := HEN.out g p x wr hg0 HS6.out
   have HR6 := lh hr6
   have KP6 := lh kp6
   have K6 := lh k6
   have HX6 := lh hx6
   have HB6 := lh hb6
   have c0 := HXK.out x wr p hx6.1 kp6
   have HNB := lh hnb
   clear hr6 kp6 k6 hx6 hb6 hnb HS6 HFI HEN HXK HK
   obtain ⟨⟨r0, r1, r2⟩, _, _⟩ := HR6.out.reads
   go_wp2_with fail
   (with_reducible refine (HNM.out _).mono ?_); rintro e w7 ⟨nm, rfl, hnm, b7⟩
   have HR7 := lh (HR6.out.next b7)
   have KP7 := lh ((b7.block _ (row_ltP KP6.out)).trans KP6.out)
   have K7 := lh ((b7.block _ (row_ltP K6.out)).trans K6.out)
   have HX7 := lh (And.intro HX6.out.1 (HX6.out.2.below b7))
   have HB7 := lh (bnext HB6.out b7)
   clear b7 HR6 KP6 K6 HB6 HX6 c0 r0 r1 r2
   obtain ⟨⟨r0, r1, r2⟩, _, _⟩ := HR7.out.reads
   have HSZ := lh (HSZX.out x)
   have HAL := lh (HALX.out x HX7.out.2.ok)
   have HSY : RowKit.Hid (mg0.cs.toArray.size = x.cs.toArray.size) := lh rfl
   have HCX := lh (fun W h => HCK.out x W h)
   clear HSZX HALX HCK HNM
   generalize hAX : x.cs.toArray = AX at *
   have HAX := lh hAX
   clear hAX
   go_wp2_with (refine wpList_load_row rfl 48 _ rfl p rfl 48 AX (0, 0) _ KP7.out HU.out rfl HSZ.out ?_)
   have hx7 := HX7.out
   (with_reducible refine (HCX.out _ hx7).mono ?_); rintro e w8 ⟨rfl, b8⟩
   have KP8 := lh ((b8.block _ (row_ltP KP7.out)).trans KP7.out)
   have K8 := lh ((b8.block _ (row_ltP K7.out)).trans K7.out)
   have HX8 := lh (And.intro HX7.out.1 (HX7.out.2.below b8))
   have HB8 := lh (bnext HB7.out b8)
   clear b8 HR7 KP7 K7 HB7 r0 r1 r2 hx7 HX7
   have HB9 := lh (fun W' (h : W' = w8.setRow w.heap.size AX) => show MgIn W' x ns [] from by
    rw [h]
    exact HX8.out.2.grown (grown_setRow AX) HNB.out)
   generalize mg0.cs.toArray = A3 at *
   go_wp2_with (first | refine wpList_load_row rfl 48 _ rfl p rfl 48 AX (0, 0) _ KP8.out HU.out rfl HSZ.out ?_ | refine wpList_store_row rfl 48 _ _ rfl w.heap.size AX rfl rfl 48 A3 K8.out HSZ.out HSY.out HAL.out ?_)
   refine bodyPost_ret (v := .tuple #[.agg AX, .int .i64 (cb.length : Int), .int .i64 0]) (results_cell_row3 Tryz.results12 _ _ w.heap.size 48 AX (0, 0) _ _ _ rfl rfl rfl (heap_setRow_same K8.out) HU.out rfl HSZ.out) rfl ⟨x, by rw [HAX.out], ⟨HX8.out.1, HB9.out _ rfl⟩, below_setRow HB8.out (Nat.le_refl _) _⟩
end Go.Proofs.YtfibaopngpfmjaaGreatDoor
