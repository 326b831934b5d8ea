/- Products: For, of the program (with a closure) and of the reference. -/
import Derived.Test.YtfajjgkhanjcfaaGreatPFind
import Derived.Test.YtfajjgkhanjcfaaGreatMA
namespace Go.Proofs.YtfajjgkhanjcfaaGreat
set_option linter.unusedSimpArgs false
set_option linter.unusedVariables false
open Go.RowKit
def outL (ops : List Int) : List Int → Bool
  | [] => false
  | x :: r => if hasF ops x = true then outL ops r else true
def outI (ops : List Int) (k : Int) : List Int → Int
  | [] => -1
  | x :: r => if hasF ops x = true then outI ops (k + 1) r else k
theorem outI_has (ops : List Int) : ∀ (l : List Int) (k : Int), 0 ≤ k → decide (0 ≤ outI ops k l) = outL ops l
  | [], _, _ => rfl
  | x :: r, k, hk => by
    unfold outI outL
    split
    · exact outI_has ops r (k + 1) (by omega)
    · simp [hk]
def fitsF (age : Int) (os : List Int) (p : PD) : Bool := ageF p age && !outL p.ops os
def forF (age : Int) (os : List Int) (l : List PD) : List Int := (l.filter (fitsF age os)).map PD.id
theorem forF_take {age : Int} {os : List Int} {l : List PD} {k : Nat} {p : PD} (h : l[k]? = some p) : forF age os (l.take (k + 1)) = if fitsF age os p = true then forF age os (l.take k) ++ [p.id] else forF age os (l.take k) := by
  rw [List.take_add_one, h]
  unfold forF
  split <;> simp_all [List.filter_append]
theorem forF_len (age : Int) (os : List Int) (l : List PD) : (forF age os l).length ≤ l.length := by
  unfold forF; rw [List.length_map]; exact List.length_filter_le _ _
abbrev pdB (p : PD) : Obj := .cells #[.int .i64 p.id, .int .i64 p.kind, .int .i64 p.units, .int .i64 p.least, .int .i64 p.most, .slice p.so.a p.so.n p.so.c, .slice p.sh.a p.sh.n p.sh.c, .int .i64 p.sf, .int .i64 p.st, .int .i64 p.price] 56
end Go.Proofs.YtfajjgkhanjcfaaGreat
