/- What user.Member and the reference's at, Find, Member return: umem. Conditions: the list holds the given users, with at most 10^6 members each. -/
import Derived.Test.YtjefmjaommpaaaaUsers
set_option linter.unusedVariables false
set_option linter.unusedSimpArgs false
namespace Go.Proofs.Ytjefmjaommpaaaa
open Go.RowKit
theorem umem_same (us : List Usr) (u : ByteArray) : umem us u u = true := by unfold umem; rw [if_pos rfl]
theorem umem_none {us : List Usr} {u g : ByteArray} (h : ¬ u = g) (hi : uidx us g = -1) : umem us u g = false := by
  unfold umem; rw [if_neg h, hi]; split <;> rfl
theorem umem_some {us : List Usr} {u g : ByteArray} {k : Nat} (hk : k < us.length) (h : ¬ u = g) (hi : uidx us g = k) : umem us u g = has u us[k].mems := by
  unfold umem; rw [if_neg h, hi]
  have e : us[((k : Nat) : Int).toNat]? = some us[k] := by rw [Int.toNat_natCast, List.getElem?_eq_getElem hk]
  rw [e]; simp
set_option maxHeartbeats 1000000 in
theorem member_any (v : Value) (us : List Usr) (u g : ByteArray) (w : World) (hv : Usrs w v us) (hl : us.length ≤ 1000000) (hm : ∀ j (h : j < us.length), us[j].mems.length ≤ 1000000) :
    Calls Try.prog 30 #[v, .string u, .string g] w fun e w' => e = .returned (.bool (umem us u g)) ∧ Below w.heap.size w w' := by
  by_cases he : u = g
  · subst he
    have HF := Lib.hid (umem_same us u)
    clear hv hm
    go_enter Try.func30, Try.ntmps30
    go_wp2_with fail
    go_ret
    exact ⟨by rw [HF.out]; rfl, Below.refl _ _⟩
  · have HC := Lib.hid (find_any v us g w hv hl hm)
    have HN := Lib.hid (umem_none (us := us) he)
    have HS := Lib.hid (fun k (hk : k < us.length) => umem_some (us := us) hk he)
    have HM := Lib.hid hm
    have e1 := str_ne he
    clear hv he hm
    go_enter Try.func30, Try.ntmps30
    go_wp2_with fail
    refine HC.out.mono ?_
    rintro e w1 (⟨hi, rfl, hb⟩ | ⟨k, hk, mv, hi, rfl, hs, hb⟩)
    · have HF := Lib.hid (HN.out hi)
      clear hi
      go_wp2_with fail
      go_ret
      exact ⟨by rw [HF.out]; rfl, hb.alloc hb.size _⟩
    · have HF := Lib.hid (HS.out k hk hi)
      have HCO := Lib.hid (fun w' (hb' : Below w1.heap.size w1 w') => scontains_any mv us[k].mems u w' (hs.below hb') (HM.out k hk))
      obtain ⟨ao, mn, mc, rfl⟩ := hs.form
      have HB := Lib.hid hb
      clear hi hs hb
      go_wp2_with fail
      refine (HCO.out _ ((Below.refl _ _).alloc (Nat.le_refl _) _)).mono ?_; rintro e w2 ⟨rfl, rfl⟩
      go_wp2_with fail
      go_ret
      exact ⟨by rw [HF.out]; rfl, HB.out.alloc HB.out.size _⟩
/-- Slot facts of the cells of user k. -/
theorem rat_any (v : Value) (us : List Usr) (x : ByteArray) (w : World) (hv : Usrs w v us) (hl : us.length ≤ 1000000) :
    Calls Try.prog 37 #[v, .string x] w fun e w' => e = .returned (.int .i64 (uidx us x)) ∧ w = w' := by
  rcases hv with ⟨rfl, rfl⟩ | ⟨a, cap, rfl, rfl⟩ | ⟨b, off, cap, rfl, hlt, hc, hcell⟩
  · go_enter Try.func37, Try.ntmps37
    go_wp2_with fail
    refine wp_loop_rounds 1 ?_
    rw [rounds_succ]
    go_wp2_with fail
    go_ret
    exact ⟨rfl, rfl⟩
  · go_enter Try.func37, Try.ntmps37
    go_wp2_with fail
    refine wp_loop_rounds 1 ?_
    rw [rounds_succ]
    go_wp2_with fail
    go_ret
    exact ⟨rfl, rfl⟩
  · have HC := Lib.hid hcell
    have HI := Lib.hid (uidx_at x us)
    have HN := Lib.hid (uidx_none x us)
    clear hcell
    go_enter Try.func37, Try.ntmps37
    go_wp2_with fail
    go_loop [8] (fun i => ∃ k : Nat, k ≤ us.length ∧ i = .int .i64 (k : Int) ∧ Hid (∀ j (hj : j < k) (hk : k ≤ us.length), ¬ (us[j]'(by omega)).name = x)) (fun i => us.length - (intOf i).toNat)
    case atStart => exact ⟨0, by omega, rfl, fun j hj => by omega⟩
    case round =>
      obtain ⟨k, hk, rfl, hn⟩ := hrel
      by_cases hltk : k < us.length
      · obtain ⟨c0, _⟩ := HC.out k hltk
        by_cases he : us[k].name = x
        · have HE := Lib.hid (HI.out k hltk (fun j hj => hn.out j hj hk) he)
          have e1 : us[k].name.toList == x.toList := by rw [he]; simp
          clear he
          go_wp2_with fail
          go_ret
          exact ⟨by rw [HE.out]; rfl, rfl⟩
        · have HS := Lib.hid (show ∀ j (hj : j < k + 1) (hk : k + 1 ≤ us.length), ¬ (us[j]'(by omega)).name = x from fun j hj hk' => by
            rcases Nat.lt_or_ge j k with h' | h'
            · exact hn.out j h' hk
            · obtain rfl : j = k := by omega
              exact he)
          have e1 := str_ne he
          clear he
          go_wp2_with fail
          go_round
          case rel => exact ⟨k + 1, by omega, by go_num, HS⟩
          case measure => simp [intOf]; omega
      · obtain rfl : k = us.length := by omega
        have HE := Lib.hid (HN.out fun j hj => hn.out j hj (Nat.le_refl _))
        go_wp2_with fail
        go_ret
        exact ⟨by rw [HE.out]; rfl, rfl⟩
set_option maxHeartbeats 1000000 in
theorem rfind_any (v : Value) (us : List Usr) (x : ByteArray) (w : World) (hv : Usrs w v us) (hl : us.length ≤ 1000000) :
    Calls Try.prog 34 #[v, .string x] w (FindSays us x w) := by
  have HA := Lib.hid (fun w' (hb : Below w.heap.size w w') => rat_any v us x w' (hv.below hb) hl)
  have hlo := uidx_ge x us
  have hhi := uidx_lt x us
  by_cases hneg : uidx us x < 0
  · have hE : uidx us x = -1 := by omega
    rw [hE] at HA
    have HE := Lib.hid hE
    clear hE hneg hlo hhi
    have hv' := hv.form
    obtain ⟨ao, n, c, rfl⟩ := hv'
    clear hv
    go_enter Try.func34, Try.ntmps34
    go_wp2_with fail
    refine (HA.out _ ((Below.refl _ _).alloc (Nat.le_refl _) _)).mono ?_; rintro e w2 ⟨rfl, rfl⟩
    go_wp2_with fail
    exact bodyPost_ret (v := .tuple #[.agg #[.string (T []), .string (T []), .slice none 0 0], .bool false]) (by simp [results, Try.results34, go_sem]) rfl (.inl ⟨HE.out, rfl, (Below.refl _ _).alloc (Nat.le_refl _) _⟩)
  · obtain ⟨k, hk⟩ := Int.eq_ofNat_of_zero_le (show 0 ≤ uidx us x by omega)
    have hkl : k < us.length := by omega
    have HE := Lib.hid hk
    rw [hk] at HA
    clear hk hneg hlo hhi
    rcases hv with ⟨rfl, rfl⟩ | ⟨a, cap, rfl, rfl⟩ | ⟨b, off, cap, rfl, hlt, hc, hcell⟩
    · simp at hkl
    · simp at hkl
    · obtain ⟨c0, c1, mv, c2, hs⟩ := hcell k hkl
      obtain ⟨ao, mn, mc, rfl⟩ := hs.form
      have HS := Lib.hid hs
      clear hcell hs
      go_enter Try.func34, Try.ntmps34
      go_wp2_with fail
      refine (HA.out _ ((Below.refl _ _).alloc (Nat.le_refl _) _)).mono ?_; rintro e w2 ⟨rfl, rfl⟩
      go_wp2_with fail
      exact bodyPost_ret (v := .tuple #[.agg #[.string us[k].name, .string us[k].leader, .slice ao mn mc], .bool true]) (by simp [results, Try.results34, go_sem]) rfl (.inr ⟨k, hkl, _, HE.out, rfl, HS.out.below ((Below.refl _ _).alloc (Nat.le_refl _) _), (Below.refl _ _).alloc (Nat.le_refl _) _⟩)

theorem has_at {x : ByteArray} {ss : List ByteArray} {k : Nat} (h : k < ss.length) (e : ss[k] = x) : has x ss = true := (has_iff x ss).2 (e ▸ List.getElem_mem h)
theorem has_none {x : ByteArray} {ss : List ByteArray} (h : ∀ j (hj : j < ss.length), ¬ ss[j] = x) : has x ss = false := by
  cases hh : has x ss with
  | false => rfl
  | true =>
    obtain ⟨j, hj, e⟩ := List.getElem_of_mem ((has_iff x ss).1 hh)
    exact absurd e (h j hj)
set_option maxHeartbeats 1000000 in
theorem rmember_any (v : Value) (us : List Usr) (u g : ByteArray) (w : World) (hv : Usrs w v us) (hl : us.length ≤ 1000000) (hm : ∀ j (h : j < us.length), us[j].mems.length ≤ 1000000) :
    Calls Try.prog 31 #[v, .string u, .string g] w fun e w' => e = .returned (.bool (umem us u g)) ∧ Below w.heap.size w w' := by
  by_cases he : u = g
  · subst he
    have HF := Lib.hid (umem_same us u)
    clear hv hm
    go_enter Try.func31, Try.ntmps31
    go_wp2_with fail
    go_ret
    exact ⟨by rw [HF.out]; rfl, Below.refl _ _⟩
  · have HC := Lib.hid (rfind_any v us g w hv hl)
    have HN := Lib.hid (umem_none (us := us) he)
    have HS := Lib.hid (fun k (hk : k < us.length) => umem_some (us := us) hk he)
    have HM := Lib.hid hm
    have e1 := str_ne he
    clear hv he hm
    go_enter Try.func31, Try.ntmps31
    go_wp2_with fail
    refine HC.out.mono ?_
    rintro e w1 (⟨hi, rfl, hb⟩ | ⟨k, hk, mv, hi, rfl, hs, hb⟩)
    · have HF := Lib.hid (HN.out hi)
      clear hi
      go_wp2_with fail
      refine wp_loop_rounds 1 ?_
      rw [rounds_succ]
      go_wp2_with fail
      go_ret
      exact ⟨by rw [HF.out]; rfl, hb.alloc hb.size _⟩
    · have HF := Lib.hid (HS.out k hk hi)
      have hml := HM.out k hk
      generalize us[k].mems = ss at *
      have HB := Lib.hid hb
      clear hi hb
      rcases hs with ⟨rfl, rfl⟩ | ⟨a, cap, rfl, rfl⟩ | ⟨b, off, cap, rfl, hlt, hc, hcell⟩
      · have HZ := Lib.hid (show has u [] = false from rfl)
        go_wp2_with fail
        refine wp_loop_rounds 1 ?_
        rw [rounds_succ]
        go_wp2_with fail
        go_ret
        exact ⟨by rw [HF.out, HZ.out]; rfl, HB.out.alloc HB.out.size _⟩
      · have HZ := Lib.hid (show has u [] = false from rfl)
        go_wp2_with fail
        refine wp_loop_rounds 1 ?_
        rw [rounds_succ]
        go_wp2_with fail
        go_ret
        exact ⟨by rw [HF.out, HZ.out]; rfl, HB.out.alloc HB.out.size _⟩
      · have HCC := Lib.hid hcell
        have hnb : ¬ w1.heap.size = b := by omega
        clear hcell
        go_wp2_with fail
        go_loop [22] (fun i => ∃ k : Nat, k ≤ ss.length ∧ i = .int .i64 (k : Int) ∧ Hid (∀ j (hj : j < k) (hk : k ≤ ss.length), ¬ ss[j]'(by omega) = u)) (fun i => ss.length - (intOf i).toNat)
        case atStart => exact ⟨0, by omega, rfl, fun j hj => by omega⟩
        case round =>
          obtain ⟨k', hk', rfl, hn⟩ := hrel
          by_cases hltk : k' < ss.length
          · have c0 := HCC.out k' hltk
            by_cases he : ss[k'] = u
            · have HE := Lib.hid (has_at hltk he)
              have e2 : ss[k'].toList == u.toList := by rw [he]; simp
              clear he
              go_wp2_with fail
              go_ret
              exact ⟨by rw [HF.out, HE.out]; rfl, HB.out.alloc HB.out.size _⟩
            · have HS2 := Lib.hid (show ∀ j (hj : j < k' + 1) (hk : k' + 1 ≤ ss.length), ¬ ss[j]'(by omega) = u from fun j hj hk'' => by
                rcases Nat.lt_or_ge j k' with h' | h'
                · exact hn.out j h' hk'
                · obtain rfl : j = k' := by omega
                  exact he)
              have e2 := str_ne he
              clear he
              go_wp2_with fail
              go_round
              case rel => exact ⟨k' + 1, by omega, by go_num, HS2⟩
              case measure => simp [intOf]; omega
          · obtain rfl : k' = ss.length := by omega
            have HE := Lib.hid (has_none fun j hj => hn.out j hj (Nat.le_refl _))
            go_wp2_with fail
            go_ret
            exact ⟨by rw [HF.out, HE.out]; rfl, HB.out.alloc HB.out.size _⟩
end Go.Proofs.Ytjefmjaommpaaaa
