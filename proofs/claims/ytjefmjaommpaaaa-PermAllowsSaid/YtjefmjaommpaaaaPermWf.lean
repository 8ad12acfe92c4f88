/- The laws PermAllows and PermGrants, as their last texts want them. Conditions: the arguments are readable. -/
import Derived.Test.YtjefmjaommpaaaaPermGr2
import Derived.Test.YtjefmjaommpaaaaOpenUsrs
set_option linter.unusedVariables false
namespace Go.Proofs.Ytjefmjaommpaaaa
open Go.RowKit
theorem pallows_wf (v : Value) (us : List Usr) (nm uid gid : ByteArray) (m wt : Int) (w : World) (hv : Usrs w v us) (hl : us.length ≤ 9223372036854775807) (hm : m ≤ 9223372036854775807) :
    Calls Try.prog 5 #[v, .agg #[.string nm, .string uid, .string gid, .int .i64 m, .int .i64 wt]] w fun e w' => e = .returned (.bool true) ∧ Below w.heap.size w w' :=
  pallows_any v us nm uid gid m wt w hv hl hm
theorem pgrants_wf (v : Value) (us : List Usr) (nm uid gid : ByteArray) (m wt x0 x1 : Int) (w : World) (hv : Usrs w v us) (hl : us.length ≤ 9223372036854775807) (hm : m ≤ 9223372036854775807) (h0 : (Lit.int .i64 x0).wf = true) (h1 : (Lit.int .i64 x1).wf = true) :
    Calls Try.prog 7 #[v, .agg #[.string nm, .string uid, .string gid, .int .i64 m, .int .i64 wt], .agg #[.int .i64 x0, .int .i64 x1]] w fun e w' => e = .returned (.bool true) ∧ Below w.heap.size w w' :=
  pgrants_any v us nm uid gid m wt x0 x1 w hv hl
end Go.Proofs.Ytjefmjaommpaaaa
