/- A region that draws its order and grows a row of the call's own: walked in one order, over a class that keeps what lies below an earlier world. -/
import Derived.Test.YtoafgpeghokhgaaOrd
import Derived.Test.YtoafgpeghokhgaaApp
namespace Go.Proofs.Ytoafgpeghokhgaa
set_option linter.unusedSimpArgs false
set_option linter.unusedVariables false
open Go.RowKit
section
variable {P : Program} {Q : Exit → Act → World → Prop} {α : Type} {enc : α → List Value}
theorem wp_region_ord2 {id : Nat} {l : List Oper} {a : Act} {w w0 : World} (hm : P.follows .mixedOrders = true) (hb : Below w0.heap.size w0 w)
    (h : ∀ x, Below w.heap.size w x → Below w0.heap.size w0 x → wpAnyH P .any l.toArray Q (fun w' => ∃ x, w' = Over w0 x) l.length (Array.replicate l.length false) a x) : (Code.region id l.toArray true).wp P Q a w :=
  have h1 : Below w.heap.size w { w with drawn := w.drawn + 1 } := ⟨rfl, rfl, rfl, Nat.le_refl _, fun _ _ => rfl⟩
  wp_region_held hm (by simpa using h { w with drawn := w.drawn + 1 } h1 (hb.trans (h1.mono hb.size)))
theorem oper_append_rd {o : Oper} {a : Act} {K : Act → World → Prop} {w : World} (so xo : Operand) (t : TypeId) (ho : o.op = .call { callee := .builtin .append, args := #[so, xo], argTypes := #[t, t] })
    (base : Nat) (e : TypeId) (i : TypeInfo) (z : Value) (size bytes : Nat) (ht : P.underlying t = some (.slice e)) (hi : P.info? e = some i) (hz : i.zero = some z)
    (hsize : i.size = size) (hby : i.bytes = bytes) (hzs : z.cells.size = size) (hsz : 0 < size) (hen : ∀ y, (enc y).length = size) (h1 : ∀ y : α, ∀ u ∈ enc y, u.oneCell' = true)
    {s y : Sl} {xs ys : List α} (hs : a.eval so = s.val) (hx : a.eval xo = y.val) (hown : Own w base e size enc s xs) (hr : Rd w enc y ys) (h63 : s.n + y.n ≤ maxLen) (hbytes : (s.n + y.n) * bytes ≤ 140737488355328) (hbase : base ≤ w.heap.size)
    (h : ∀ (v' : Sl) w', Own w' base e size enc v' (xs ++ ys) → w.grownBy w' s.val.ownBlock → (v'.val.ownBlock = s.val.ownBlock ∨ v'.val.ownBlock = some w.heap.size) → K (a.put o.dst v'.val) w') : o.wp P a w K Q := by
  obtain ⟨v', w', hrun, h2, h3, h4⟩ := run_append_rd (P := P) base t o.type e i z size bytes ht hi hz hsize hby hzs hsz hen h1 hown hr h63 hbytes hbase
  unfold Oper.wp execOp
  simp only [ho, resolve, invoke, builtin, Sem.run_bind, Sem.run_pure, Result.andThen_ok, List.map_toArray, List.map_cons, List.map_nil, hs, hx, hrun]
  exact h v' w' h2 h3 h4
theorem Own.alloc {w : World} {base : Nat} {e : TypeId} {size : Nat} {s : Sl} {xs : List α} (h : Own w base e size enc s xs) (o : Obj) : Own (w.alloc o) base e size enc s xs :=
  h.same (fun g hg => by rw [alloc_block_if, if_neg (by have := (h.block g hg).2; omega)])
end
end Go.Proofs.Ytoafgpeghokhgaa
