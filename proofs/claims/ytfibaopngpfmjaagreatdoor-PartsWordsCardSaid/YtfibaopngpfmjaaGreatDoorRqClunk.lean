/- A TClunk: what msg.rest, only, fields return. Conditions: a fid. -/
import Derived.Test.YtfibaopngpfmjaaGreatDoorRqSame
import Derived.Laws.Rows
import Derived.Laws.Tables
set_option linter.unusedVariables false
set_option linter.unusedSimpArgs false
namespace Go.Proofs.YtfibaopngpfmjaaGreatDoor
open Go.RowKit Go.Proofs
/-- TClunk of a file. -/
def clm (t f : Int) : Mg := ⟨120, t, f, 0, 0, 0, 0, [], [], [], .slice none 0 0, .slice none 0 0, 0, 0, 0, 0, 0, 0, [], 0, 0, [], 0, 0, 0, 0, 0, 0, 0, 0, 0, [], [], [], [], 0, 0, 0, []⟩
def mg0 : Mg := ⟨0, 0, 0, 0, 0, 0, 0, [], [], [], .slice none 0 0, .slice none 0 0, 0, 0, 0, 0, 0, 0, [], 0, 0, [], 0, 0, 0, 0, 0, 0, 0, 0, 0, [], [], [], [], 0, 0, 0, []⟩
theorem clm_val (t f : Int) : Value.agg (clm t f).cs.toArray = .agg #[.int .i64 120, .int .i64 t, .int .i64 f, .int .i64 0, .int .i64 0, .int .i64 0, .int .i64 0, .string (T []), .string (T []), .string (T []), .slice none 0 0, .slice none 0 0, .int .i64 0, .int .i64 0, .int .i64 0, .int .i64 0, .int .i64 0, .int .i64 0, .string (T []), .int .i64 0, .int .i64 0, .string (T []), .int .i64 0, .int .i64 0, .int .i64 0, .int .i64 0, .int .i64 0, .int .i64 0, .int .i64 0, .int .i64 0, .int .i64 0, .string (T []), .string (T []), .string (T []), .string (T []), .int .i64 0, .int .i64 0, .int .i64 0, .string (T [])] := rfl
theorem clm_ok (t f : Int) : (clm t f).ok := ⟨⟨_, _, _, rfl⟩, ⟨_, _, _, rfl⟩⟩
theorem mg_all (m : Mg) (h : m.ok) : m.cs.toArray.all (·.oneCell') = true := all_oneCell_toArray (m.one h)
theorem mg_size (m : Mg) : (Tryz.prog.info? 48).map (·.size) = some m.cs.toArray.size := by
  rw [show m.cs.toArray.size = 39 from rfl]; exact msg_size
/-- One field stored anew. -/
theorem mg_set {W : World} {g : Nat} {m m' : Mg} (h : W.heap[g]? = some (mgobj m)) (i : Nat) (v : Value) (e : m.cs.toArray.setIfInBounds i v = m'.cs.toArray) : (W.setCell ⟨g, i, none⟩ v).heap[g]? = some (mgobj m') := by
  have := heap_setCell_same W g i _ _ v h
  rw [this, e]
theorem heap_setRow_same {W : World} {g : Nat} {cs cs' : Array Value} {t : TypeId} {fr : Nat × Nat} (h : W.heap[g]? = some (.cells cs t fr)) : (W.setRow g cs').heap[g]? = some (.cells cs' t fr) := by
  simp [World.setRow, Array.getElem?_modify, h]
theorem grown_setRow {W : World} {g : Nat} (cs : Array Value) : W.grownBy (W.setRow g cs) (some g) :=
  ⟨rfl, rfl, rfl, by simp [World.setRow], fun i hi hn => by
    have : g ≠ i := fun e => hn (by rw [e])
    simp [World.setRow, Array.getElem?_modify, this]⟩
theorem below_setRow {B : Nat} {w W : World} {g : Nat} (h : Below B w W) (hg : B ≤ g) (cs : Array Value) : Below B w (W.setRow g cs) :=
  h.trans ⟨rfl, rfl, rfl, by simp [World.setRow], fun i hi => by
    have : g ≠ i := by omega
    simp [World.setRow, Array.getElem?_modify, this]⟩
set_option maxRecDepth 100000 in
set_option maxHeartbeats 4000000 in
theorem name_clunk (w : World) : Calls Tryz.prog 34 #[.int .i64 120] w fun e w' => e = .returned (.string (T [84, 67, 108, 117, 110, 107])) ∧ Below w.heap.size w w' := by
  have HB := Lib.hid (fun o => alloc_below w o)
  go_enter Tryz.func34, Tryz.ntmps34
  go_wp2_with fail
  go_ret
  exact ⟨rfl, HB.out _⟩
set_option maxRecDepth 100000 in
set_option maxHeartbeats 4000000 in
theorem tagged_clunk (t f : Int) (h0 : 0 ≤ t) (h1 : t ≤ 65534) (w : World) : Calls Tryz.prog 79 #[.agg (clm t f).cs.toArray] w fun e w' => e = .returned (.bool true) ∧ Below w.heap.size w w' := by
  have HB := Lib.hid (fun o => alloc_below w o)
  rw [clm_val]
  go_enter Tryz.func79, Tryz.ntmps79
  go_wp2_with fail
  go_ret
  exact ⟨rfl, HB.out _⟩
theorem fid_any (f : Int) (h0 : 0 ≤ f) (h1 : f ≤ 4294967294) (w : World) : Calls Tryz.prog 140 #[.int .i64 f] w fun e w' => e = .returned (.int .i64 0) ∧ w' = w := by
  go_enter Tryz.func140, Tryz.ntmps140
  go_wp2
  go_ret
  exact ⟨rfl, rfl⟩
set_option maxRecDepth 100000 in
set_option maxHeartbeats 4000000 in
theorem fields_clunk (t f : Int) (h0 : 0 ≤ f) (h1 : f ≤ 4294967294) (w : World) : Calls Tryz.prog 82 #[.agg (clm t f).cs.toArray] w fun e w' => e = .returned (.int .i64 0) ∧ Below w.heap.size w w' := by
  have HB := Lib.hid (fun o => alloc_below w o)
  have HF := Lib.hid (fun W => fid_any f h0 h1 W)
  clear h0 h1
  rw [clm_val]
  go_enter Tryz.func82, Tryz.ntmps82
  go_wp2_with fail
  (with_reducible refine (HF.out _).mono ?_); rintro e wx ⟨rfl, rfl⟩
  go_wp2_with fail
  go_ret
  exact ⟨rfl, HB.out _⟩
end Go.Proofs.YtfibaopngpfmjaaGreatDoor
