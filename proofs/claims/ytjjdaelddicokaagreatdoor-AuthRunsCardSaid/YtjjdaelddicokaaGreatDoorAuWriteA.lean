/- What auth.Write returns: Au.write. Conditions: keys and texts of at most 1000; at most 10^6 steps. -/
import Derived.Test.YtjjdaelddicokaaGreatDoorAuWrite
set_option linter.unusedVariables false
set_option linter.unusedSimpArgs false
namespace Go.Proofs.YtjjdaelddicokaaGreatDoor
open Go.RowKit
open Au (Att Cnv)
theorem three_rows (w : World) (A B C : Obj) : (((w.alloc A).alloc B).alloc C).heap[w.heap.size]? = some A ∧ (((w.alloc A).alloc B).alloc C).heap[w.heap.size + 1]? = some B ∧ (((w.alloc A).alloc B).alloc C).heap[w.heap.size + 2]? = some C := by
  obtain ⟨h1, h2⟩ := two_rows w A B
  refine ⟨alloc_keepA h1, alloc_keepA h2, ?_⟩
  have := heap_alloc_new ((w.alloc A).alloc B) C
  simpa using this
theorem below3 (w : World) (A B C : Obj) : Below w.heap.size w (((w.alloc A).alloc B).alloc C) :=
  (((Below.refl w.heap.size w).alloc (Nat.le_refl _) A).alloc (by simp) B).alloc (by simp; omega) C
theorem kin_grown {W W' : World} {p : Nat} (h : KIn W) (hg : W.grownBy W' (some p)) (hp : 0 ≠ p) : KIn W' := by
  have hk : W'.heap[0]? = W.heap[0]? := hg.block _ h.1 (fun e => hp (Option.some.inj e))
  exact ⟨Nat.lt_of_lt_of_le h.1 hg.size, fun i hi => by rw [← h.2 i hi]; simp only [World.cell?, hk]⟩
namespace Au
theorem carries_le {c : Cnv} (h : Fine c) (n : Int) : carries c n ≤ 1002 := by
  unfold carries
  split
  · omega
  · split
    · have := put_le (user c.key); have := h.find sUser; unfold user at *; omega
    · omega
end Au
theorem learn_is (c : Cnv) (s : List UInt8) : Au.learn c s = { c with peer := (Au.learn c s).peer } := by
  unfold Au.learn; split <;> rfl
theorem write_eq {c : Cnv} {p s : List UInt8} (hp : c.phase = 2) (hl : (Au.learn c s).peer = p) :
    Au.write c s = if wbad c p s = true then ({ c with phase := 4, err := 28 }, 28) else (Au.settled { c with peer := p, step := c.step + 1 }, 0) := by
  have hle := learn_is c s
  rw [hl] at hle
  unfold Au.write
  rw [if_pos hp, hle]
  by_cases h : (0 ≤ Au.carries c c.step ∧ p.length ≠ 32) ∨ Au.msg { c with peer := p } c.step ≠ s
  · rw [if_pos h, if_pos]
    unfold wbad
    rcases h with h | h
    · rw [decide_eq_true h.1, decide_eq_false h.2]; rfl
    · rw [decide_eq_false h]; simp
  · rw [if_neg h, if_neg]
    have h1 : ¬ (0 ≤ Au.carries c c.step ∧ p.length ≠ 32) := fun k => h (.inl k)
    have h2 : Au.msg { c with peer := p } c.step = s := Decidable.byContradiction fun k => h (.inr k)
    unfold wbad
    rw [decide_eq_true h2]
    by_cases h3 : 0 ≤ Au.carries c c.step
    · have h4 : p.length = 32 := Decidable.byContradiction fun k => h1 ⟨h3, k⟩
      rw [decide_eq_true h4]; simp
    · rw [decide_eq_false h3]; simp
set_option maxRecDepth 100000 in
set_option maxHeartbeats 8000000 in
theorem write_on (c : Cnv) (s : List UInt8) (ao : Option Addr) (m cp : Nat) (w : World) (hk : Atts w (.slice ao m cp) c.key) (hf : Fine c) (hst : 0 ≤ c.step ∧ c.step ≤ 1000000) (hK : KIn w) (hs : s.length ≤ 100000) (hp : c.phase = 2) :
    Calls Tryz.prog 12 #[.agg #[.int .i64 c.id, .string (T c.proto), .int .i64 c.role, .int .i64 c.phase, .int .i64 c.step, (.slice ao m cp), .string (T c.own), .string (T c.peer), .string (T c.user), .int .i64 c.err], .string (T s)] w (WrSays w (Au.write c s) c.key) := by
  obtain ⟨p, hl⟩ : ∃ p, (Au.learn c s).peer = p := ⟨_, rfl⟩
  obtain ⟨R0, hR0⟩ : ∃ R, Au.write c s = R := ⟨_, rfl⟩
  rw [hR0]
  have HR0 := Lib.hid (hR0.symm.trans (write_eq hp hl))
  clear hR0
  have HST := Lib.hid hst
  have HKL := Lib.hid hK.1
  have HNE := Lib.hid (show ∀ q, ao = some q → c.key ≠ [] → q.block < w.heap.size from fun q hq hn => by
    obtain ⟨_, hc⟩ := hk.at
    obtain ⟨b, off, ha, hlt, _⟩ := hc 0 (List.length_pos_iff.2 hn)
    rw [hq] at ha; cases ha; exact hlt)
  have HR3 := Lib.hid (three_rows w (.cells #[.int .i64 c.id, .string (T c.proto), .int .i64 c.role, .int .i64 c.phase, .int .i64 c.step, (.slice ao m cp), .string (T c.own), .string (T c.peer), .string (T c.user), .int .i64 c.err] 25) (.cells #[.int .i64 0, .string (T []), .int .i64 0, .int .i64 0, .int .i64 0, .slice none 0 0, .string (T []), .string (T []), .string (T []), .int .i64 0] 25) (.cells #[.int .i64 c.id, .string (T c.proto), .int .i64 c.role, .int .i64 c.phase, .int .i64 c.step, (.slice ao m cp), .string (T c.own), .string (T c.peer), .string (T c.user), .int .i64 c.err] 25))
  have HB3 := Lib.hid (below3 w (.cells #[.int .i64 c.id, .string (T c.proto), .int .i64 c.role, .int .i64 c.phase, .int .i64 c.step, (.slice ao m cp), .string (T c.own), .string (T c.peer), .string (T c.user), .int .i64 c.err] 25) (.cells #[.int .i64 0, .string (T []), .int .i64 0, .int .i64 0, .int .i64 0, .slice none 0 0, .string (T []), .string (T []), .string (T []), .int .i64 0] 25) (.cells #[.int .i64 c.id, .string (T c.proto), .int .i64 c.role, .int .i64 c.phase, .int .i64 c.step, (.slice ao m cp), .string (T c.own), .string (T c.peer), .string (T c.user), .int .i64 c.err] 25))
  obtain ⟨at_, hat⟩ : ∃ x, Au.carries c c.step = x := ⟨_, rfl⟩
  have hcb : at_ ≤ 1002 := by rw [← hat]; exact Au.carries_le hf _
  have hlp : p = if 0 ≤ at_ ∧ at_ + 32 ≤ s.length then (s.drop at_.toNat).take 32 else c.peer := by
    rw [← hl]; unfold Au.learn; rw [hat]; split <;> rfl
  have HLP := Lib.hid hlp
  have HFD := Lib.hid (show Fine { c with peer := p } from ⟨hf.kl, hf.kf, hf.ow, by
    show p.length ≤ 1000
    rw [hlp]
    split
    · rw [List.length_take]; omega
    · exact hf.pe⟩)
  have HFC := Lib.hid hf
  have HCA := Lib.hid (show Calls Tryz.prog 37 #[.agg #[.int .i64 c.id, .string (T c.proto), .int .i64 c.role, .int .i64 c.phase, .int .i64 c.step, (.slice ao m cp), .string (T c.own), .string (T c.peer), .string (T c.user), .int .i64 c.err], .int .i64 c.step] (((w.alloc (.cells #[.int .i64 c.id, .string (T c.proto), .int .i64 c.role, .int .i64 c.phase, .int .i64 c.step, (.slice ao m cp), .string (T c.own), .string (T c.peer), .string (T c.user), .int .i64 c.err] 25)).alloc (.cells #[.int .i64 0, .string (T []), .int .i64 0, .int .i64 0, .int .i64 0, .slice none 0 0, .string (T []), .string (T []), .string (T []), .int .i64 0] 25)).alloc (.cells #[.int .i64 c.id, .string (T c.proto), .int .i64 c.role, .int .i64 c.phase, .int .i64 c.step, (.slice ao m cp), .string (T c.own), .string (T c.peer), .string (T c.user), .int .i64 c.err] 25)) fun e w' => e = .returned (.int .i64 at_) ∧ Below (((w.alloc (.cells #[.int .i64 c.id, .string (T c.proto), .int .i64 c.role, .int .i64 c.phase, .int .i64 c.step, (.slice ao m cp), .string (T c.own), .string (T c.peer), .string (T c.user), .int .i64 c.err] 25)).alloc (.cells #[.int .i64 0, .string (T []), .int .i64 0, .int .i64 0, .int .i64 0, .slice none 0 0, .string (T []), .string (T []), .string (T []), .int .i64 0] 25)).alloc (.cells #[.int .i64 c.id, .string (T c.proto), .int .i64 c.role, .int .i64 c.phase, .int .i64 c.step, (.slice ao m cp), .string (T c.own), .string (T c.peer), .string (T c.user), .int .i64 c.err] 25)).heap.size (((w.alloc (.cells #[.int .i64 c.id, .string (T c.proto), .int .i64 c.role, .int .i64 c.phase, .int .i64 c.step, (.slice ao m cp), .string (T c.own), .string (T c.peer), .string (T c.user), .int .i64 c.err] 25)).alloc (.cells #[.int .i64 0, .string (T []), .int .i64 0, .int .i64 0, .int .i64 0, .slice none 0 0, .string (T []), .string (T []), .string (T []), .int .i64 0] 25)).alloc (.cells #[.int .i64 c.id, .string (T c.proto), .int .i64 c.role, .int .i64 c.phase, .int .i64 c.step, (.slice ao m cp), .string (T c.own), .string (T c.peer), .string (T c.user), .int .i64 c.err] 25)) w' from (carries_any c ao m cp c.step _ (hk.below HB3.out) hf).mono fun e w' h' => ⟨by rw [← hat]; exact h'.1, h'.2⟩)
  have HK3 := Lib.hid (hk.below HB3.out)
  have HKI := Lib.hid (hK.below HB3.out)
  have e1 : (c.phase != 2) = false := by rw [hp]; rfl
  clear hk hf hst hK hp hl hat hlp
  go_enter Tryz.func12, Tryz.ntmps12
  go_wp2_with fail
  (with_reducible refine HCA.out.mono ?_); rintro e w1 ⟨rfl, b1⟩
  have HR2 := Lib.hid ((b1.block _ (row_ltA HR3.out.1)).trans HR3.out.1)
  have HR4 := Lib.hid ((b1.block _ (row_ltA HR3.out.2.1)).trans HR3.out.2.1)
  have HR6 := Lib.hid ((b1.block _ (row_ltA HR3.out.2.2)).trans HR3.out.2.2)
  have HAT := Lib.hid (HK3.out.below b1)
  have HKW := Lib.hid (HKI.out.below b1)
  have HB := Lib.hid (bnext HB3.out b1)
  clear b1 HCA HK3 HKI HR3 HB3
  have hcase : (0 ≤ at_ ∧ at_ + 32 ≤ s.length) ∨ (0 ≤ at_ ∧ ¬ at_ + 32 ≤ s.length) ∨ ¬ 0 ≤ at_ := by omega
  obtain ⟨BB, hBB⟩ : ∃ b, decide (0 ≤ at_ ∧ at_ + 32 ≤ s.length) = b := ⟨_, rfl⟩
  go_upto_region 5 with fail
  go_cut [7, 27] (fun q t w' => q = .int .i64 at_ ∧ t = .bool BB ∧ w1 = w')
  case first =>
    repeat (rename (∀ (a : Act) (w : World), Code.wp _ _ _ a w → _) => ax; clear ax)
    rcases hcase with ⟨h1, h2⟩ | ⟨h1, h2⟩ | h1
    · have HBB := Lib.hid (show BB = true from by rw [← hBB]; exact decide_eq_true ⟨h1, h2⟩)
      clear hBB
      go_wp2_with fail
      go_meet
      exact ⟨rfl, by rw [HBB.out], rfl⟩
    · have HBB := Lib.hid (show BB = false from by rw [← hBB]; exact decide_eq_false (fun h => by omega))
      have h3 : decide (at_ + 32 ≤ (s.length : Int)) = false := decide_eq_false (by omega)
      clear hBB h2
      go_wp2_with fail
      go_meet
      exact ⟨rfl, by rw [HBB.out], rfl⟩
    · have HBB := Lib.hid (show BB = false from by rw [← hBB]; exact decide_eq_false (fun h => by omega))
      have h3 : decide (0 ≤ at_) = false := decide_eq_false (by omega)
      clear hBB h1
      go_wp2_with fail
      go_meet
      exact ⟨rfl, by rw [HBB.out], rfl⟩
  case rest =>
  obtain ⟨rfl, rfl, rfl⟩ := hcut
  clear hcase
  go_upto_if 27 with fail
  go_cut [7] (fun q w' => q = .int .i64 at_ ∧ Hid (w'.heap[w.heap.size]? = some (.cells #[.int .i64 c.id, .string (T c.proto), .int .i64 c.role, .int .i64 c.phase, .int .i64 c.step, (.slice ao m cp), .string (T c.own), .string (T c.peer), .string (T c.user), .int .i64 c.err] 25 (0, 0))) ∧ Hid (w'.heap[w.heap.size + 1]? = some (.cells #[.int .i64 0, .string (T []), .int .i64 0, .int .i64 0, .int .i64 0, .slice none 0 0, .string (T []), .string (T []), .string (T []), .int .i64 0] 25 (0, 0))) ∧ Hid (w'.heap[w.heap.size + 2]? = some (.cells #[.int .i64 c.id, .string (T c.proto), .int .i64 c.role, .int .i64 c.phase, .int .i64 c.step, (.slice ao m cp), .string (T c.own), .string (T p), .string (T c.user), .int .i64 c.err] 25 (0, 0))) ∧ Hid (Atts w' (.slice ao m cp) c.key) ∧ Hid (KIn w') ∧ Hid (Below w.heap.size w w'))
  case first =>
    repeat (rename (∀ (a : Act) (w : World), Code.wp _ _ _ a w → _) => ax; clear ax)
    cases BB with
    | true =>
      obtain ⟨h1, h2⟩ := of_decide_eq_true hBB
      clear hBB
      obtain ⟨k, rfl⟩ := Int.eq_ofNat_of_zero_le h1
      have hpe := HLP.out
      rw [if_pos ⟨h1, h2⟩, Int.toNat_natCast] at hpe
      have hex : (T s).extract k (k + 32) = T p := by rw [extract_TA, T_list, hpe, show k + 32 - k = 32 from by omega]
      obtain ⟨⟨x0, x1, x2, x3, x4, x5, x6, x7, x8, x9⟩, ⟨y0, y1, y2, y3, y4, y5, y6, y7, y8, y9⟩⟩ := cv_readsZ HR6.out
      have hg := fun v => grown_set (grown_refl w1 (w.heap.size + 2)) 7 v
      have hr6 := fun v => heap_setCell_same w1 (w.heap.size + 2) 7 _ _ v HR6.out
      clear hpe
      go_wp2_with fail
      go_meet
      try rw [hex]
      have hgp := hg (.string (T p))
      refine ⟨rfl, Lib.hid (grown_keep hgp HR2.out (by omega)), Lib.hid (grown_keep hgp HR4.out (by omega)), Lib.hid (hr6 (.string (T p))), Lib.hid (atts_keep HAT.out hgp (fun q hq hn => by have := HNE.out q hq hn; omega)), Lib.hid ?_, Lib.hid (grown_below HB.out hgp (by omega))⟩
      exact kin_grown HKW.out hgp (by have := HB.out.size; have := HKL.out; omega)
    | false =>
      have hpe := HLP.out
      rw [if_neg (of_decide_eq_false hBB)] at hpe
      subst hpe
      clear HLP hBB
      go_wp2_with fail
      go_meet
      exact ⟨rfl, HR2, HR4, HR6, HAT, HKW, HB⟩
  case rest =>
    obtain ⟨rfl, HR2', HR4', HR6', HAT', HKI', HB'⟩ := hcut
    rename (∀ (a : Act) (w : World), Code.wp _ _ _ a w → _) => ax
    exact ax _ _ (wr7 c p s ao m cp w _ HR2' HR4' HR6' HAT' HFC HFD HKI' HB' HST HNE R0 HR0 _ _ _ _ _ _ _ _ _ _ _ _ _ _ _ _ _ _ _ _ _ _ _ _ _ _ _ _ _ _ _ _ _ _ _ _ _ _ _ _ _ _ _ _ _ _ _ _ _ _ _ _ _ _ _ _ _ _ _ _ _ _ _ (by kernel_rfl))
set_option maxRecDepth 20000 in
set_option maxHeartbeats 8000000 in
theorem write_off (c : Cnv) (s : List UInt8) (ao : Option Addr) (m cp : Nat) (w : World) (hk : Atts w (.slice ao m cp) c.key) (hf : Fine c) (hp : ¬ c.phase = 2) :
    Calls Tryz.prog 12 #[.agg #[.int .i64 c.id, .string (T c.proto), .int .i64 c.role, .int .i64 c.phase, .int .i64 c.step, (.slice ao m cp), .string (T c.own), .string (T c.peer), .string (T c.user), .int .i64 c.err], .string (T s)] w fun e w' => ∃ a n k, e = .returned (.tuple #[.agg #[.int .i64 c.id, .string (T c.proto), .int .i64 c.role, .int .i64 c.phase, .int .i64 c.step, (.slice a n k), .string (T c.own), .string (T c.peer), .string (T c.user), .int .i64 c.err], .int .i64 53]) ∧ Atts w' (.slice a n k) c.key ∧ (∀ q, a = some q → w.heap.size ≤ q.block) ∧ Below w.heap.size w w' := by
  have HZ0 := Lib.hid (two_rows w (.cells #[.int .i64 c.id, .string (T c.proto), .int .i64 c.role, .int .i64 c.phase, .int .i64 c.step, (.slice ao m cp), .string (T c.own), .string (T c.peer), .string (T c.user), .int .i64 c.err] 25) (.cells #[.int .i64 0, .string (T []), .int .i64 0, .int .i64 0, .int .i64 0, .slice none 0 0, .string (T []), .string (T []), .string (T []), .int .i64 0] 25)).2
  have HB0 := Lib.hid ((((Below.refl w.heap.size w).alloc (Nat.le_refl _) (.cells #[.int .i64 c.id, .string (T c.proto), .int .i64 c.role, .int .i64 c.phase, .int .i64 c.step, (.slice ao m cp), .string (T c.own), .string (T c.peer), .string (T c.user), .int .i64 c.err] 25)).alloc (by simp) (.cells #[.int .i64 0, .string (T []), .int .i64 0, .int .i64 0, .int .i64 0, .slice none 0 0, .string (T []), .string (T []), .string (T []), .int .i64 0] 25)))
  have HCP := Lib.hid (fun (W : World) (hb : Below w.heap.size w W) => copied_any c ao m cp W (hk.below hb) hf)
  have e1 : (c.phase != 2) = true := by simpa using hp
  clear hk hf hp
  go_enter Tryz.func12, Tryz.ntmps12
  go_wp2_with fail
  (with_reducible refine (HCP.out _ HB0.out).mono ?_); rintro e w2 ⟨a, n, k, rfl, hat, hab, b2⟩
  have hz2 := (b2.block _ (row_ltA HZ0.out)).trans HZ0.out
  obtain ⟨⟨z0, z1, z2, z3, z4, z5, z6, z7, z8, z9⟩, ⟨u0, u1, u2, u3, u4, u5, u6, u7, u8, u9⟩⟩ := cv_readsZ hz2
  have HZ2 := Lib.hid hz2
  have HA2 := Lib.hid hat
  have HB2 := Lib.hid (bnext HB0.out b2)
  have HQ := Lib.hid (show ∀ q, a = some q → q.block ≠ w.heap.size + 1 from fun q hq => by have := hab q hq; have := row_ltA HZ0.out; omega)
  have HNB := Lib.hid (show ∀ q, a = some q → w.heap.size ≤ q.block from fun q hq => by have := hab q hq; have := row_ltA HZ0.out; omega)
  clear hat hab b2 hz2
  go_wp2_with fail
  have hq := cv_stored (.int .i64 c.id) (.string (T c.proto)) (.int .i64 c.role) (.int .i64 c.phase) (.int .i64 c.step) ((.slice a n k)) (.string (T c.own)) (.string (T c.peer)) (.string (T c.user)) (.int .i64 c.err) HZ2.out
  obtain ⟨⟨q0, q1, q2, q3, q4, q5, q6, q7, q8, q9⟩, _⟩ := cv_readsZ hq.1
  exact bodyPost_ret (v := .tuple #[.agg #[.int .i64 c.id, .string (T c.proto), .int .i64 c.role, .int .i64 c.phase, .int .i64 c.step, (.slice a n k), .string (T c.own), .string (T c.peer), .string (T c.user), .int .i64 c.err], .int .i64 53]) (by simp [results, Tryz.results12, go_sem, q0, q1, q2, q3, q4, q5, q6, q7, q8, q9]) rfl ⟨a, n, k, rfl, HA2.out.grown hq.2 (fun q hq' => HQ.out q hq'), HNB.out, grown_below HB2.out hq.2 (by omega)⟩
theorem write_any (c : Cnv) (s : List UInt8) (ao : Option Addr) (m cp : Nat) (w : World) (hk : Atts w (.slice ao m cp) c.key) (hf : Fine c) (hst : 0 ≤ c.step ∧ c.step ≤ 1000000) (hK : KIn w) (hs : s.length ≤ 100000) :
    Calls Tryz.prog 12 #[.agg #[.int .i64 c.id, .string (T c.proto), .int .i64 c.role, .int .i64 c.phase, .int .i64 c.step, (.slice ao m cp), .string (T c.own), .string (T c.peer), .string (T c.user), .int .i64 c.err], .string (T s)] w (WrSays w (Au.write c s) c.key) := by
  by_cases hp : c.phase = 2
  · exact write_on c s ao m cp w hk hf hst hK hs hp
  · rw [show Au.write c s = (c, 53) from by unfold Au.write; rw [if_neg hp]]
    exact write_off c s ao m cp w hk hf hp
end Go.Proofs.YtjjdaelddicokaaGreatDoor
