/- The laws PermTexts, PermOpens, PermBack and PermInherits of layer 6 return true, whatever they are given, and write nothing that was there. Conditions: the arguments are ints and texts. -/
import Derived.Test.YtjefmjaommpaaaaPermAlive
set_option linter.unusedVariables false
set_option linter.unusedSimpArgs false
namespace Go.Proofs.Ytjefmjaommpaaaa
open Go.RowKit
set_option maxHeartbeats 1000000 in
theorem texts_any (m : Int) (s : ByteArray) (w : World) (hm : m ≤ 9223372036854775807) (hs : s.size ≤ 9223372036854775807) :
    Calls Try.prog 3 #[.int .i64 m, .string s] w fun e w' => e = .returned (.bool true) ∧ Below w.heap.size w w' := by
  by_cases h : (100 : Int) < s.size
  · go_enter Try.func3, Try.ntmps3
    go_wp2_with fail
    refine (alive_any _).mono ?_; rintro e w1 ⟨rfl, b1⟩
    go_wp2_with fail
    go_ret
    exact ⟨rfl, b1⟩
  · have H1 := Lib.hid (fun w => parse_any s w hs)
    have H2 := Lib.hid (fun w => rparse_any s w hs)
    have H3 := Lib.hid (fun w => text_any m w hm)
    have H4 := Lib.hid (fun w => rtext_any m w hm)
    have H5 := Lib.hid (fun w => type_any m hm w)
    have H6 := Lib.hid (fun w => rtype_any m hm w)
    unfold Prm.ParSays at H1 H2
    generalize (Prm.prs s.data.toList).getD 0 = pv at *
    generalize (if (Prm.prs s.data.toList).isSome = true then (0 : Int) else 2) = pe at *
    generalize Prm.txt m = tx at *
    generalize Prm.typ m = ty at *
    go_enter Try.func3, Try.ntmps3
    go_wp2_with fail
    refine (H1.out _).mono ?_; rintro e w1 ⟨rfl, b1⟩
    go_wp2_with fail
    refine (H2.out _).mono ?_; rintro e w2 ⟨rfl, b2⟩
    replace b2 := bnext b1 b2
    clear b1
    go_wp2_with fail
    refine (H3.out _).mono ?_; rintro e w3 ⟨rfl, b3⟩
    replace b3 := bnext b2 b3
    clear b2
    go_wp2_with fail
    refine (H4.out _).mono ?_; rintro e w4 ⟨rfl, b4⟩
    replace b4 := bnext b3 b4
    clear b3
    go_wp2_with fail
    refine (H5.out _).mono ?_; rintro e w5 ⟨rfl, b5⟩
    replace b5 := bnext b4 b5
    clear b4
    go_wp2_with fail
    refine (H6.out _).mono ?_; rintro e w6 ⟨rfl, rfl⟩
    go_wp2_with fail
    refine (alive_any _).mono ?_; rintro e w7 ⟨rfl, b7⟩
    replace b7 := bnext b5 b7
    clear b5
    go_wp2_with fail
    go_ret
    exact ⟨rfl, b7⟩
set_option maxHeartbeats 1000000 in
theorem opens_any (m d f : Int) (w : World) (hm : -9223372036854775808 ≤ m ∧ m ≤ 9223372036854775807) (hd : d ≤ 9223372036854775807) (hf : f ≤ 9223372036854775807) :
    Calls Try.prog 4 #[.int .i64 m, .int .i64 d, .int .i64 f] w fun e w' => e = .returned (.bool true) ∧ Below w.heap.size w w' := by
  have H1 := Lib.hid (fun w => open_any m hm.1 hm.2 w)
  have H2 := Lib.hid (fun w => ropen_any m hm.1 hm.2 w)
  have H3 := Lib.hid (fun w => inherit_any d f hd hf w)
  have H4 := Lib.hid (fun w => rinherit_any d f hd hf w)
  unfold Prm.OpenSays at H1 H2
  generalize Prm.opnV m = pv at *
  generalize Prm.opnE m = pe at *
  generalize Prm.inh d f = ih at *
  clear hm hd hf
  go_enter Try.func4, Try.ntmps4
  go_wp2_with fail
  refine (H1.out _).mono ?_; rintro e w1 ⟨rfl, b1⟩
  go_wp2_with fail
  refine (H2.out _).mono ?_; rintro e w2 ⟨rfl, b2⟩
  replace b2 := bnext b1 b2
  clear b1
  go_wp2_with fail
  refine (H3.out _).mono ?_; rintro e w3 ⟨rfl, rfl⟩
  go_wp2_with fail
  refine (H4.out _).mono ?_; rintro e w4 ⟨rfl, rfl⟩
  go_wp2_with fail
  refine (alive_any _).mono ?_; rintro e w7 ⟨rfl, b7⟩
  replace b7 := bnext b2 b7
  clear b2
  go_wp2_with fail
  go_ret
  exact ⟨rfl, b7⟩
set_option maxHeartbeats 1000000 in
theorem back_any (m : Int) (s : ByteArray) (w : World) (hm : m ≤ 9223372036854775807) (hs : s.size ≤ 9223372036854775807) :
    Calls Try.prog 6 #[.int .i64 m, .string s] w fun e w' => e = .returned (.bool true) ∧ Below w.heap.size w w' := by
  by_cases h : (100 : Int) < s.size
  · go_enter Try.func6, Try.ntmps6
    go_wp2_with fail
    refine (alive_any _).mono ?_; rintro e w1 ⟨rfl, b1⟩
    go_wp2_with fail
    go_ret
    exact ⟨rfl, b1⟩
  · have H1 := Lib.hid (fun w => parse_any s w hs)
    have H3 := Lib.hid (fun w => text_any m w hm)
    unfold Prm.ParSays at H1
    cases hv : Prm.vld m with
    | true =>
      cases hp : Prm.prs s.data.toList with
      | some m' =>
        have hl := Prm.txt_len hv
        have hr := Prm.prs_txt hv
        obtain ⟨hv2, ht2⟩ := Prm.prs_some hp
        have H5 := Lib.hid (fun w => text_any m' w (by have := (Prm.vld_iff m').1 hv2; omega))
        rw [ht2, T_of] at H5
        simp only [hp, Option.getD_some, Option.isSome_some] at H1
        have H4 := Lib.hid (fun w => parse_any (T (Prm.txt m)) w (by rw [T_size, hl]; omega))
        unfold Prm.ParSays at H4
        rw [T_list, hr] at H4
        generalize Prm.txt m = tx at *
        have hie : tx.isEmpty = false := by cases tx with | nil => simp at hl | cons => rfl
        have hli : (tx.length : Int) = 11 := by omega
        clear hv hp hl hr hv2 ht2
        go_enter Try.func6, Try.ntmps6
        go_wp2_with fail
        refine (H3.out _).mono ?_; rintro e w1 ⟨rfl, b1⟩
        go_wp2_with fail
        refine (H4.out _).mono ?_; rintro e w2 ⟨rfl, b2⟩
        replace b2 := bnext b1 b2
        clear b1
        go_wp2_with fail
        refine (H1.out _).mono ?_; rintro e w3 ⟨rfl, b3⟩
        replace b3 := bnext b2 b3
        clear b2
        go_wp2_with fail
        refine (H5.out _).mono ?_; rintro e w4 ⟨rfl, b4⟩
        replace b4 := bnext b3 b4
        clear b3
        go_wp2_with fail
        refine (alive_any _).mono ?_; rintro e w5 ⟨rfl, b5⟩
        replace b5 := bnext b4 b5
        clear b4
        go_wp2_with fail
        go_ret
        exact ⟨rfl, b5⟩
      | none =>
        have hl := Prm.txt_len hv
        have hr := Prm.prs_txt hv
        simp only [hp, Option.getD_none, Option.isSome_none] at H1
        have H4 := Lib.hid (fun w => parse_any (T (Prm.txt m)) w (by rw [T_size, hl]; omega))
        unfold Prm.ParSays at H4
        rw [T_list, hr] at H4
        generalize Prm.txt m = tx at *
        have hie : tx.isEmpty = false := by cases tx with | nil => simp at hl | cons => rfl
        have hli : (tx.length : Int) = 11 := by omega
        clear hv hp hl hr
        go_enter Try.func6, Try.ntmps6
        go_wp2_with fail
        refine (H3.out _).mono ?_; rintro e w1 ⟨rfl, b1⟩
        go_wp2_with fail
        refine (H4.out _).mono ?_; rintro e w2 ⟨rfl, b2⟩
        replace b2 := bnext b1 b2
        clear b1
        go_wp2_with fail
        refine (H1.out _).mono ?_; rintro e w3 ⟨rfl, b3⟩
        replace b3 := bnext b2 b3
        clear b2
        go_wp2_with fail
        refine (alive_any _).mono ?_; rintro e w4 ⟨rfl, b4⟩
        replace b4 := bnext b3 b4
        clear b3
        go_wp2_with fail
        go_ret
        exact ⟨rfl, b4⟩
    | false =>
      cases hp : Prm.prs s.data.toList with
      | some m' =>
        rw [Prm.txt_empty hv] at H3
        obtain ⟨hv2, ht2⟩ := Prm.prs_some hp
        have H5 := Lib.hid (fun w => text_any m' w (by have := (Prm.vld_iff m').1 hv2; omega))
        rw [ht2, T_of] at H5
        simp only [hp, Option.getD_some, Option.isSome_some] at H1
        clear hv hp hv2 ht2
        go_enter Try.func6, Try.ntmps6
        go_wp2_with fail
        refine (H3.out _).mono ?_; rintro e w1 ⟨rfl, b1⟩
        go_wp2_with fail
        refine (H1.out _).mono ?_; rintro e w2 ⟨rfl, b2⟩
        replace b2 := bnext b1 b2
        clear b1
        go_wp2_with fail
        refine (H5.out _).mono ?_; rintro e w3 ⟨rfl, b3⟩
        replace b3 := bnext b2 b3
        clear b2
        go_wp2_with fail
        refine (alive_any _).mono ?_; rintro e w4 ⟨rfl, b4⟩
        replace b4 := bnext b3 b4
        clear b3
        go_wp2_with fail
        go_ret
        exact ⟨rfl, b4⟩
      | none =>
        rw [Prm.txt_empty hv] at H3
        simp only [hp, Option.getD_none, Option.isSome_none] at H1
        clear hv hp
        go_enter Try.func6, Try.ntmps6
        go_wp2_with fail
        refine (H3.out _).mono ?_; rintro e w1 ⟨rfl, b1⟩
        go_wp2_with fail
        refine (H1.out _).mono ?_; rintro e w2 ⟨rfl, b2⟩
        replace b2 := bnext b1 b2
        clear b1
        go_wp2_with fail
        refine (alive_any _).mono ?_; rintro e w3 ⟨rfl, b3⟩
        replace b3 := bnext b2 b3
        clear b2
        go_wp2_with fail
        go_ret
        exact ⟨rfl, b3⟩
namespace Prm
theorem inh_facts (d m : Nat) (hd : d ≤ 9223372036854775807) (hm : m ≤ 9223372036854775807) : ∃ M : Nat, inh d m = M ∧ M ≤ m ∧ bits .or .i64 (M : Int) (m : Int) = m ∧ (M : Int) / 512 = (m : Int) / 512 ∧ typ M = typ m ∧ inh d M = M := by
  have hk := kmask_lt m
  have hhi := inhN_hi (kmask m) d m hk (by omega) (by omega)
  have hle := inhN_le (kmask m) d m
  have hbit : ∀ c : Int, bit ((inhN (kmask m) d m : Nat) : Int) (512 * c) = bit (m : Int) (512 * c) := fun c => bit_big m _ c (by omega) (by omega) (by omega)
  have b1 := hbit 4194304
  have b2 := hbit 2097152
  have b3 := hbit 1048576
  have b4 := hbit 262144
  simp only [Int.reduceMul] at b1 b2 b3 b4
  refine ⟨_, inh_nat d m, hle, ?_, by omega, ?_, ?_⟩
  · rw [i64_or_nat _ _ (by omega) (by omega), inhN_or]
  · unfold typ ib; rw [b1, b2, b3, b4]
  · rw [inh_nat]
    have e : kmask ((inhN (kmask m) d m : Nat) : Int) = kmask m := by unfold kmask at b1 ⊢; rw [b1]
    rw [e, inhN_idem]
end Prm
set_option maxHeartbeats 1000000 in
theorem inherits_any (d m : Int) (w : World) (hd : d ≤ 9223372036854775807) (hm : m ≤ 9223372036854775807) :
    Calls Try.prog 8 #[.int .i64 d, .int .i64 m] w fun e w' => e = .returned (.bool true) ∧ Below w.heap.size w w' := by
  by_cases h : d < 0 ∨ m < 0
  · have H1 := Lib.hid (fun w => inherit_any d m hd hm w)
    rw [Prm.inh_neg h] at H1
    by_cases h1 : d < 0
    · clear h
      go_enter Try.func8, Try.ntmps8
      go_wp2_with fail
      refine (H1.out _).mono ?_; rintro e w1 ⟨rfl, rfl⟩
      go_wp2_with fail
      refine (alive_any _).mono ?_; rintro e w1 ⟨rfl, b1⟩
      go_wp2_with fail
      go_ret
      exact ⟨rfl, b1⟩
    · have h2 : m < 0 := by omega
      clear h
      go_enter Try.func8, Try.ntmps8
      go_wp2_with fail
      refine (H1.out _).mono ?_; rintro e w1 ⟨rfl, rfl⟩
      go_wp2_with fail
      refine (alive_any _).mono ?_; rintro e w1 ⟨rfl, b1⟩
      go_wp2_with fail
      go_ret
      exact ⟨rfl, b1⟩
  · obtain ⟨d', rfl⟩ := Int.eq_ofNat_of_zero_le (show 0 ≤ d by omega)
    obtain ⟨m', rfl⟩ := Int.eq_ofNat_of_zero_le (show 0 ≤ m by omega)
    obtain ⟨M, e1, e2, e3, e4, e5, e6⟩ := Prm.inh_facts d' m' (by omega) (by omega)
    have H1 := Lib.hid (fun w => inherit_any d' m' hd hm w)
    have H2 := Lib.hid (fun w => type_any M (by omega) w)
    have H3 := Lib.hid (fun w => type_any m' hm w)
    have H4 := Lib.hid (fun w => inherit_any d' M hd (by omega) w)
    rw [e1] at H1
    rw [e5] at H2
    rw [e6] at H4
    have t1 : (bits .or .i64 (M : Int) (m' : Int) == (m' : Int)) = true := by rw [beq_iff_eq]; exact e3
    have t2 : ((M : Int) / 512 == (m' : Int) / 512) = true := by rw [beq_iff_eq]; exact e4
    have hM : (M : Int) ≤ 9223372036854775807 := by omega
    generalize Prm.typ (m' : Int) = ty at *
    clear e1 e2 e3 e4 e5 e6 h
    go_enter Try.func8, Try.ntmps8
    go_wp2_with fail
    refine (H1.out _).mono ?_; rintro e w1 ⟨rfl, rfl⟩
    go_wp2_with fail
    refine (H2.out _).mono ?_; rintro e w2 ⟨rfl, b2⟩
    go_wp2_with fail
    refine (H3.out _).mono ?_; rintro e w3 ⟨rfl, b3⟩
    replace b3 := bnext b2 b3
    clear b2
    go_wp2_with fail
    refine (H4.out _).mono ?_; rintro e w4 ⟨rfl, rfl⟩
    go_wp2_with fail
    refine (alive_any _).mono ?_; rintro e w5 ⟨rfl, b5⟩
    replace b5 := bnext b3 b5
    clear b3
    go_wp2_with fail
    go_ret
    exact ⟨rfl, b5⟩
theorem texts_wf (m : Int) (s : ByteArray) (w : World) (hm : (Lit.int .i64 m).wf = true) (hs : s.size ≤ maxLen) : Calls Try.prog 3 #[.int .i64 m, .string s] w fun e w' => e = .returned (.bool true) ∧ Below w.heap.size w w' :=
  texts_any m s w (i64s m hm).2 (by unfold maxLen at hs; omega)
theorem back_wf (m : Int) (s : ByteArray) (w : World) (hm : (Lit.int .i64 m).wf = true) (hs : s.size ≤ maxLen) : Calls Try.prog 6 #[.int .i64 m, .string s] w fun e w' => e = .returned (.bool true) ∧ Below w.heap.size w w' :=
  back_any m s w (i64s m hm).2 (by unfold maxLen at hs; omega)
theorem opens_wf (m d f : Int) (w : World) (hm : (Lit.int .i64 m).wf = true) (hd : (Lit.int .i64 d).wf = true) (hf : (Lit.int .i64 f).wf = true) : Calls Try.prog 4 #[.int .i64 m, .int .i64 d, .int .i64 f] w fun e w' => e = .returned (.bool true) ∧ Below w.heap.size w w' :=
  opens_any m d f w (i64s m hm) (i64s d hd).2 (i64s f hf).2
theorem inherits_wf (d m : Int) (w : World) (hd : (Lit.int .i64 d).wf = true) (hm : (Lit.int .i64 m).wf = true) : Calls Try.prog 8 #[.int .i64 d, .int .i64 m] w fun e w' => e = .returned (.bool true) ∧ Below w.heap.size w w' :=
  inherits_any d m w (i64s d hd).2 (i64s m hm).2
end Go.Proofs.Ytjefmjaommpaaaa
