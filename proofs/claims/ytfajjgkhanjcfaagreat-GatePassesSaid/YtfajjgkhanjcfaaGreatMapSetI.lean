/- A set that a call keeps as a map from numbers to bools: made, asked, put into. No conditions. -/
import Derived.Test.YtfajjgkhanjcfaaGreatMA
import Derived.Test.YtfajjgkhanjcfaaGreatOwnI
import Derived.Maps.OwnOps
import Derived.Maps.OwnSet
namespace Go.Proofs.YtfajjgkhanjcfaaGreat
set_option linter.unusedSimpArgs false
set_option linter.unusedVariables false
open Go.RowKit
open Go.Maps (Keyed)
theorem atKey_fold (u z : DataW Unit) (x : Int) : ∀ (acc : List Int) (m : DataW Unit), Maps.IsMap m → ((acc.map (Lit.int .i64)).foldl (fun m x => m.put x u) m).atKey (.int .i64 x) z = if x ∈ acc then u else m.atKey (.int .i64 x) z
  | [], m, _ => by simp
  | y :: r, m, hm => by
    have ih := atKey_fold u z x r (m.put (.int .i64 y) u) (hm.put _ u)
    rw [List.map_cons, List.foldl_cons, ih]
    by_cases hr : x ∈ r
    · rw [if_pos hr, if_pos (List.mem_cons_of_mem _ hr)]
    · rw [if_neg hr]
      by_cases e : x = y
      · subst e
        rw [if_pos (List.mem_cons_self ..), Maps.atKey_put_same hm (k := .int .i64 x) (by exact trivial)]
      · rw [if_neg (by simp [e, hr]), Maps.atKey_put_other (fun q => e (by cases q; rfl))]
abbrev setD (acc : List Int) : DataW Unit := Maps.setOf (.lit (.bool true)) (acc.map (Lit.int .i64))
def OwnS (P : Program) (k e : TypeId) (w : World) (b n : Nat) (acc : List Int) : Prop := w.ownsMap P k (plainElem (H := Unit) P e) b n (setD acc)
theorem OwnS.made (P : Program) (k e : TypeId) (w : World) : OwnS P k e (w.alloc (.map #[] 0)) w.heap.size 0 [] := World.ownsMap_made w P k _
theorem setD_snoc (acc : List Int) (x : Int) : setD (acc ++ [x]) = (setD acc).put (.int .i64 x) (.lit (.bool true)) := by
  unfold setD
  rw [List.map_append, List.map_cons, List.map_nil, Maps.setOf_snoc]
section
variable {P : Program} {k e t : TypeId} {w : World} {b n : Nat} {acc : List Int}
theorem OwnS.kept {w' : World} {row : Option Nat} (h : OwnS P k e w b n acc) (hg : w.grownBy w' row) (hne : some b ≠ row) : OwnS P k e w' b n acc := World.ownsMap.kept h hg hne
theorem OwnS.of_block {w' : World} (h : OwnS P k e w b n acc) (hb : w'.heap[b]? = w.heap[b]?) : OwnS P k e w' b n acc := by
  obtain ⟨es, clock, h1, h2⟩ := h
  exact ⟨es, clock, hb.trans h1, h2⟩
theorem OwnS.lt (h : OwnS P k e w b n acc) : b < w.heap.size := World.ownsMap.lt h
theorem keyOf_int (hk : P.underlying k = some (.int .i64)) {x : Int} (hw : (Lit.int .i64 x).wf = true) : keyOf P k (.int .i64 x) = some (.int .i64 x) := by simp [keyOf, mapKey, hk, hw]
theorem OwnS.look (h : OwnS P k e w b n acc) (hk : P.underlying k = some (.int .i64)) (ht : P.underlying t = some (.map k e)) (he : P.underlying e = some .bool) (hz : (zeroValue e).run P w = .ok (.bool false) w) (x : Int) (hw : (Lit.int .i64 x).wf = true) :
    (Instr.lookup t (.map (some b)) (.int .i64 x) false).run P w = .ok (.bool (decide (x ∈ acc))) w := by
  obtain ⟨v, ps, hrun, hv⟩ := World.ownsMap.lookup h (Maps.int_keyed hk) ht hz (plainElem_bool he false) (keyOf_int hk hw)
  have hat : (setD acc).atKey (.int .i64 x) (.lit (.bool false)) = .lit (.bool (decide (x ∈ acc))) := by
    unfold setD Maps.setOf
    rw [atKey_fold _ _ x _ _ Maps.isMap_empty]
    by_cases hx : x ∈ acc
    · rw [if_pos hx]; simp [hx]
    · rw [if_neg hx]
      simp [hx, DataW.atKey]
  rw [hat] at hv
  rw [hrun]
  have hv' : v = .bool (decide (x ∈ acc)) := by
    unfold plainElem at hv
    rw [he] at hv
    cases v <;> simp at hv
    rw [hv.1]
  rw [hv']
theorem wpList_lookup_set {ops : Array Oper} {rest : List Oper} {o : Oper} {a : Act} {Q : Exit → Act → World → Prop} (hg : o.guard = none) (m xo : Operand) (hop : o.op = Op.lookup t m xo false)
    (hm : a.eval m = .map (some b)) (h : OwnS P k e w b n acc) (hk : P.underlying k = some (.int .i64)) (ht : P.underlying t = some (.map k e)) (he : P.underlying e = some .bool) (hz : (zeroValue e).run P w = .ok (.bool false) w) (x : Int) (hw : (Lit.int .i64 x).wf = true) (hx : a.eval xo = .int .i64 x)
    (v : Bool) (hv : decide (x ∈ acc) = v) (hK : wpList P ops Q rest (a.put o.dst (.bool v)) w) : wpList P ops Q (o :: rest) a w := by
  subst hv
  refine wpList_plain hg fun K' hK' => ?_
  have hrun := h.look hk ht he hz x hw
  unfold Oper.wp
  simp [execOp, hop, hm, hx, hrun, Result.andThen]
  exact hK' _ _ hK
theorem wpList_update_set {ops : Array Oper} {rest : List Oper} {o : Oper} {a : Act} {Q : Exit → Act → World → Prop} (hg : o.guard = none) (m xo vo : Operand) (hop : o.op = Op.mapUpdate t m xo vo)
    (hm : a.eval m = .map (some b)) (h : OwnS P k e w b n acc) (hk : P.underlying k = some (.int .i64)) (ht : P.underlying t = some (.map k e)) (he : P.underlying e = some .bool) (hn : n < maxLen) (x : Int) (hw : (Lit.int .i64 x).wf = true) (hx : a.eval xo = .int .i64 x) (hv : a.eval vo = .bool true)
    (hK : ∀ w', OwnS P k e w' b (n + 1) (acc ++ [x]) → w.grownBy w' (some b) → wpList P ops Q rest (a.put o.dst undef) w') : wpList P ops Q (o :: rest) a w :=
  wpList_mapUpdate_own w hg m xo vo t hop k e (Maps.int_keyed hk) ht _ b n (setD acc) hm h hn _ _ _ hx hv (keyOf_int hk hw) _ [] (plainElem_bool he true) fun w' h1 h2 => hK w' (by unfold OwnS; rw [setD_snoc]; exact h1) h2
end
end Go.Proofs.YtfajjgkhanjcfaaGreat
