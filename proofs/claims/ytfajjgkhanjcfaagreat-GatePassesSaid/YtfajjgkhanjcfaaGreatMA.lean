/- Several of my texts in one: Base, Fresh, Let, App, OwnB, Ord, OrdApp, OrdQ, Args, Keep. -/
import Derived.WalkKit
import Derived.WalkSpells
import Derived.WalkLawsBesides
import Derived.Handy
import Derived.Deep.QuietTactic
import Derived.BigQuiet
import Derived.Deep.AppendLies
import Derived.Laws.OwnMore
import Derived.Deep.Draws
import Derived.Lib.Hide
import Derived.Deep.Light
import Derived.BigGuardPart
import Derived.Deep.DeepCutAuto
import Derived.Maps.AppendAt
import Derived.OwnWalk
import Derived.Test.YtfajjgkhanjcfaaGreatChecked
import Derived.OrdersHeld
/- Words used by all walks of this seat: the world behind a call that only made memory; a slice that reads as a list; a region that draws its order over such worlds. No conditions. -/
namespace Go.Proofs.YtfajjgkhanjcfaaGreat
set_option linter.unusedSimpArgs false
set_option linter.unusedVariables false
open Go.RowKit

theorem ret_int {k : IntKind} {a b : Int} (h : a = b) : Ending.returned (.int k a) = .returned (.int k b) := by rw [h]
theorem ret_bool {a b : Bool} (h : a = b) : Ending.returned (.bool a) = .returned (.bool b) := by rw [h]

open Classical in
/-- The world x, where it is w but for what was made since; else w. -/
noncomputable def Over (w x : World) : World := if Below w.heap.size w x then x else w

theorem over_below (w x : World) : Below w.heap.size w (Over w x) := by
  unfold Over; split
  · assumption
  · exact Below.refl _ _
theorem over_of {w x : World} (h : Below w.heap.size w x) : x = Over w x := by unfold Over; rw [if_pos h]
@[go_sem] theorem over_cell (w x : World) (n i : Nat) (h : n < w.heap.size) : (Over w x).cell? ⟨n, i, none⟩ = w.cell? ⟨n, i, none⟩ := (over_below w x).cell (p := ⟨n, i, none⟩) h
@[go_sem] theorem over_frozen (w x : World) (n i : Nat) (h : n < w.heap.size) : (Over w x).frozen? ⟨n, i, none⟩ = w.frozen? ⟨n, i, none⟩ := (over_below w x).frozen (p := ⟨n, i, none⟩) h
theorem over_ex {w x : World} (h : Below w.heap.size w x) : ∃ y, x = Over w y := ⟨x, over_of h⟩
theorem over_size (w x : World) : w.heap.size ≤ (Over w x).heap.size := (over_below w x).size
theorem size_of {w x w' : World} (h : w' = Over w x) : w.heap.size ≤ w'.heap.size := by rw [h]; exact (over_below w x).size
noncomputable def overRest (w x : World) (n i : Nat) : Option Value := (Over w x).cell? ⟨n, i, none⟩
noncomputable def overRestF (w x : World) (n i : Nat) : Bool := (Over w x).frozen? ⟨n, i, none⟩
@[go_sem low] theorem over_cell_if (w x : World) (n i : Nat) : (Over w x).cell? ⟨n, i, none⟩ = if n < w.heap.size then w.cell? ⟨n, i, none⟩ else overRest w x n i := by
  split
  · exact over_cell w x n i ‹_›
  · rfl
@[go_sem low] theorem over_frozen_if (w x : World) (n i : Nat) : (Over w x).frozen? ⟨n, i, none⟩ = if n < w.heap.size then w.frozen? ⟨n, i, none⟩ else overRestF w x n i := by
  split
  · exact over_frozen w x n i ‹_›
  · rfl
@[go_sem low] theorem alloc_cell_if (w : World) (c : Array Value) (t : TypeId) (n i : Nat) : (w.alloc (.cells c t)).cell? ⟨n, i, none⟩ = if n = w.heap.size then c[i]? else w.cell? ⟨n, i, none⟩ := by
  split
  · exact World.cell?_alloc_at c t n i ‹_›
  · rcases Nat.lt_or_ge n w.heap.size with h | h
    · exact World.cell?_alloc_past _ n i h
    · have h1 : (w.heap.push (.cells c t))[n]? = none := Array.getElem?_eq_none (by simp; omega)
      have h2 : w.heap[n]? = none := Array.getElem?_eq_none h
      simp only [World.cell?]
      show (match (w.heap.push (.cells c t))[n]? with | some (.cells c _ _) => _ | _ => _) = _
      rw [h1, h2]
@[go_sem low] theorem alloc_frozen_if (w : World) (c : Array Value) (t : TypeId) (n i : Nat) : (w.alloc (.cells c t)).frozen? ⟨n, i, none⟩ = if n = w.heap.size then false else w.frozen? ⟨n, i, none⟩ := by
  split
  · exact World.frozen?_alloc_at c t n i ‹_›
  · rcases Nat.lt_or_ge n w.heap.size with h | h
    · exact World.frozen?_alloc_past _ n i h
    · have h1 : (w.heap.push (.cells c t))[n]? = none := Array.getElem?_eq_none (by simp; omega)
      have h2 : w.heap[n]? = none := Array.getElem?_eq_none h
      simp only [World.frozen?]
      show (match (w.heap.push (.cells c t))[n]? with | some (.cells _ _ (lo, hi)) => _ | _ => _) = _
      rw [h1, h2]
@[go_sem] theorem over_lt (w x : World) (n : Nat) (h : n < w.heap.size) : (n < (Over w x).heap.size) = True := by have := over_size w x; simp; omega
@[go_sem] theorem lt_0_2 (n : Nat) : (n < n + 1 + 1) = True := eq_true (by omega)
@[go_sem] theorem lt_1_2 (n : Nat) : (n + 1 < n + 1 + 1) = True := eq_true (by omega)
@[go_sem] theorem lt_0_3 (n : Nat) : (n < n + 1 + 1 + 1) = True := eq_true (by omega)
@[go_sem] theorem lt_1_3 (n : Nat) : (n + 1 < n + 1 + 1 + 1) = True := eq_true (by omega)
@[go_sem] theorem lt_2_3 (n : Nat) : (n + 1 + 1 < n + 1 + 1 + 1) = True := eq_true (by omega)
@[go_sem] theorem lt_0_4 (n : Nat) : (n < n + 1 + 1 + 1 + 1) = True := eq_true (by omega)
@[go_sem] theorem lt_1_4 (n : Nat) : (n + 1 < n + 1 + 1 + 1 + 1) = True := eq_true (by omega)
@[go_sem] theorem lt_2_4 (n : Nat) : (n + 1 + 1 < n + 1 + 1 + 1 + 1) = True := eq_true (by omega)
@[go_sem] theorem lt_3_4 (n : Nat) : (n + 1 + 1 + 1 < n + 1 + 1 + 1 + 1) = True := eq_true (by omega)
@[go_sem] theorem lt_0_5 (n : Nat) : (n < n + 1 + 1 + 1 + 1 + 1) = True := eq_true (by omega)
@[go_sem] theorem lt_1_5 (n : Nat) : (n + 1 < n + 1 + 1 + 1 + 1 + 1) = True := eq_true (by omega)
@[go_sem] theorem lt_2_5 (n : Nat) : (n + 1 + 1 < n + 1 + 1 + 1 + 1 + 1) = True := eq_true (by omega)
@[go_sem] theorem lt_3_5 (n : Nat) : (n + 1 + 1 + 1 < n + 1 + 1 + 1 + 1 + 1) = True := eq_true (by omega)
@[go_sem] theorem lt_4_5 (n : Nat) : (n + 1 + 1 + 1 + 1 < n + 1 + 1 + 1 + 1 + 1) = True := eq_true (by omega)
@[go_sem] theorem lt_0_6 (n : Nat) : (n < n + 1 + 1 + 1 + 1 + 1 + 1) = True := eq_true (by omega)
@[go_sem] theorem lt_1_6 (n : Nat) : (n + 1 < n + 1 + 1 + 1 + 1 + 1 + 1) = True := eq_true (by omega)
@[go_sem] theorem lt_2_6 (n : Nat) : (n + 1 + 1 < n + 1 + 1 + 1 + 1 + 1 + 1) = True := eq_true (by omega)
@[go_sem] theorem lt_3_6 (n : Nat) : (n + 1 + 1 + 1 < n + 1 + 1 + 1 + 1 + 1 + 1) = True := eq_true (by omega)
@[go_sem] theorem lt_4_6 (n : Nat) : (n + 1 + 1 + 1 + 1 < n + 1 + 1 + 1 + 1 + 1 + 1) = True := eq_true (by omega)
@[go_sem] theorem lt_5_6 (n : Nat) : (n + 1 + 1 + 1 + 1 + 1 < n + 1 + 1 + 1 + 1 + 1 + 1) = True := eq_true (by omega)
@[go_sem] theorem lt_0_7 (n : Nat) : (n < n + 1 + 1 + 1 + 1 + 1 + 1 + 1) = True := eq_true (by omega)
@[go_sem] theorem lt_1_7 (n : Nat) : (n + 1 < n + 1 + 1 + 1 + 1 + 1 + 1 + 1) = True := eq_true (by omega)
@[go_sem] theorem lt_2_7 (n : Nat) : (n + 1 + 1 < n + 1 + 1 + 1 + 1 + 1 + 1 + 1) = True := eq_true (by omega)
@[go_sem] theorem lt_3_7 (n : Nat) : (n + 1 + 1 + 1 < n + 1 + 1 + 1 + 1 + 1 + 1 + 1) = True := eq_true (by omega)
@[go_sem] theorem lt_4_7 (n : Nat) : (n + 1 + 1 + 1 + 1 < n + 1 + 1 + 1 + 1 + 1 + 1 + 1) = True := eq_true (by omega)
@[go_sem] theorem lt_5_7 (n : Nat) : (n + 1 + 1 + 1 + 1 + 1 < n + 1 + 1 + 1 + 1 + 1 + 1 + 1) = True := eq_true (by omega)
@[go_sem] theorem lt_6_7 (n : Nat) : (n + 1 + 1 + 1 + 1 + 1 + 1 < n + 1 + 1 + 1 + 1 + 1 + 1 + 1) = True := eq_true (by omega)
@[go_sem] theorem lt_0_8 (n : Nat) : (n < n + 1 + 1 + 1 + 1 + 1 + 1 + 1 + 1) = True := eq_true (by omega)
@[go_sem] theorem lt_1_8 (n : Nat) : (n + 1 < n + 1 + 1 + 1 + 1 + 1 + 1 + 1 + 1) = True := eq_true (by omega)
@[go_sem] theorem lt_2_8 (n : Nat) : (n + 1 + 1 < n + 1 + 1 + 1 + 1 + 1 + 1 + 1 + 1) = True := eq_true (by omega)
@[go_sem] theorem lt_3_8 (n : Nat) : (n + 1 + 1 + 1 < n + 1 + 1 + 1 + 1 + 1 + 1 + 1 + 1) = True := eq_true (by omega)
@[go_sem] theorem lt_4_8 (n : Nat) : (n + 1 + 1 + 1 + 1 < n + 1 + 1 + 1 + 1 + 1 + 1 + 1 + 1) = True := eq_true (by omega)
@[go_sem] theorem lt_5_8 (n : Nat) : (n + 1 + 1 + 1 + 1 + 1 < n + 1 + 1 + 1 + 1 + 1 + 1 + 1 + 1) = True := eq_true (by omega)
@[go_sem] theorem lt_6_8 (n : Nat) : (n + 1 + 1 + 1 + 1 + 1 + 1 < n + 1 + 1 + 1 + 1 + 1 + 1 + 1 + 1) = True := eq_true (by omega)
@[go_sem] theorem lt_7_8 (n : Nat) : (n + 1 + 1 + 1 + 1 + 1 + 1 + 1 < n + 1 + 1 + 1 + 1 + 1 + 1 + 1 + 1) = True := eq_true (by omega)
@[go_sem] theorem lt_add_t (n m k : Nat) (h : n < m) : (n < m + k) = True := by simp; omega
@[go_sem] theorem over_over_cell (w x y : World) (n i : Nat) (h : n < w.heap.size) : (Over (Over w x) y).cell? ⟨n, i, none⟩ = w.cell? ⟨n, i, none⟩ := by
  rw [over_cell _ _ _ _ (Nat.lt_of_lt_of_le h (over_size w x)), over_cell _ _ _ _ h]
@[go_sem] theorem over_over_frozen (w x y : World) (n i : Nat) (h : n < w.heap.size) : (Over (Over w x) y).frozen? ⟨n, i, none⟩ = w.frozen? ⟨n, i, none⟩ := by
  rw [over_frozen _ _ _ _ (Nat.lt_of_lt_of_le h (over_size w x)), over_frozen _ _ _ _ h]
@[go_sem] theorem over_over_lt (w x y : World) (n : Nat) (h : n < w.heap.size) : (n < (Over (Over w x) y).heap.size) = True := by have := over_size w x; have := over_size (Over w x) y; simp; omega
theorem over_le (w x : World) (n : Nat) (h : n ≤ w.heap.size) : n ≤ (Over w x).heap.size := by have := over_size w x; omega
theorem le_alloc {n : Nat} {w : World} (h : n ≤ w.heap.size) (o : Obj) : n ≤ (w.alloc o).heap.size := by simp; omega
theorem le_setCell {n : Nat} {w : World} (h : n ≤ w.heap.size) (p : Addr) (u : Value) : n ≤ (w.setCell p u).heap.size := by simpa [World.setCell] using h
theorem le_drew {n : Nat} {w : World} (h : n ≤ w.heap.size) : n ≤ w.drew.heap.size := h
theorem below_drewN_ {B : Nat} {a w : World} (h : Below B a w) (n : Nat) : Below B a (w.drewN n) := ⟨h.os, h.tape, h.output, h.size, h.block⟩
theorem le_drewN {k : Nat} {w : World} (h : k ≤ w.heap.size) (n : Nat) : k ≤ (w.drewN n).heap.size := h
theorem below_over {B : Nat} {a w : World} (h : Below B a w) (hB : B ≤ w.heap.size) (x : World) : Below B a (Over w x) := h.trans ((over_below w x).mono hB)

theorem below_of {w x w' : World} (h : w' = Over w x) : Below w.heap.size w w' := by rw [h]; exact over_below w x
theorem below_of_ex {w w' : World} (h : ∃ x, w' = Over w x) : Below w.heap.size w w' := let ⟨_, hx⟩ := h; below_of hx
theorem below_step {B : Nat} {a W w1 : World} (h : Below B a W) (hle : B ≤ W.heap.size) (hb : Below W.heap.size W w1) : Below B a w1 := h.trans (hb.mono hle)
theorem below_over_step {w x w1 : World} (h : Below (Over w x).heap.size (Over w x) w1) : Below w.heap.size w w1 := (over_below w x).trans (h.mono (over_size w x))
theorem wp_letter {c : Code} {P : Program} {Q : Exit → Act → World → Prop} {a : Act} {W : World} (h : ∀ w0, Below W.heap.size W w0 → c.wp P Q a w0) : c.wp P Q a W := h W (Below.refl _ _)

/-- What a contract of a function says that only makes memory: the value, and the world. -/
def Gives (v : Value) (w : World) (e : Ending) (w' : World) : Prop := e = .returned v ∧ ∃ x, w' = Over w x
theorem gives_of {v : Value} {w w' : World} {e : Ending} (he : e = .returned v) (h : Below w.heap.size w w') : Gives v w e w' := ⟨he, _, over_of h⟩
theorem Gives.below {v : Value} {w w' : World} {e : Ending} (h : Gives v w e w') : e = .returned v ∧ Below w.heap.size w w' := by
  obtain ⟨h1, x, rfl⟩ := h; exact ⟨h1, over_below w x⟩

section
variable {P : Program} {a : Act} {w : World} {Q : Exit → Act → World → Prop}
/-- A region that draws its order and whose operations read, or make memory by calls. -/
theorem wp_region_over {id : Nat} {l : List Oper} (hm : P.follows .mixedOrders = true) (hB : Region.lexB .any l.toArray = true)
    (h : wpQuiet P l.toArray (fun w' => ∃ x, w' = Over w x) (fun a' => ∀ w', (∃ x, w' = Over w x) → Q .normal a' w') l a) : (Code.region id l.toArray true).wp P Q a w :=
  wp_region_quiet (C := fun w' => ∃ x, w' = Over w x) hm hB ⟨_, over_of ⟨rfl, rfl, rfl, Nat.le_refl _, fun _ _ => rfl⟩⟩ (by simpa using h)
theorem over_over (w x y : World) : ∃ z, Over (Over w x) y = Over w z :=
  ⟨_, over_of ((over_below w x).trans ((over_below (Over w x) y).mono (over_size w x)))⟩
theorem quiet_gives {f : FuncId} {args : Array Value} {x : World} {v : Value} (h : Calls P f args (Over w x) (Gives v (Over w x))) :
    Calls P f args (Over w x) fun e w'' => e = .returned v ∧ ∃ m, w'' = Over w m :=
  h.mono fun _ _ ⟨he, y, hy⟩ => ⟨he, by rw [hy]; exact over_over w x y⟩
theorem quiet_same {f : FuncId} {args : Array Value} {x : World} {v : Value} (h : Calls P f args (Over w x) fun e w' => e = .returned v ∧ Over w x = w') :
    Calls P f args (Over w x) fun e w'' => e = .returned v ∧ ∃ m, w'' = Over w m :=
  h.mono fun _ _ ⟨he, hy⟩ => ⟨he, x, hy.symm⟩
end

theorem quietN_same {P : Program} {f : FuncId} {args : Array Value} {w : World} {n : Nat} {v : Value} (h : Calls P f args (w.drewN n) fun e w' => e = .returned v ∧ w.drewN n = w') :
    Calls P f args (w.drewN n) fun e w'' => e = .returned v ∧ ∃ m, w'' = w.drewN m := h.mono fun _ _ ⟨he, hm⟩ => ⟨he, n, hm.symm⟩

/-! A slice's header; what it reads as. -/
structure Sl where
  a : Option Addr
  n : Nat
  c : Nat
abbrev Sl.val (s : Sl) : Value := .slice s.a s.n s.c

theorem block_of_add (a : Addr) (n : Nat) : (a.add n).block = a.block := by unfold Addr.add; split <;> rfl
theorem add_of_add (a : Addr) (i j : Nat) : (a.add i).add j = a.add (i + j) := by
  unfold Addr.add
  by_cases hi : i = 0 <;> by_cases hj : j = 0 <;> simp [hi, hj, Nat.add_assoc]

/-- Slice s holds the elements xs, each laid out by enc. -/
structure Rd {α : Type} (w : World) (enc : α → List Value) (s : Sl) (xs : List α) : Prop where
  len : xs.length = s.n
  cap : s.n ≤ s.c
  max : s.c ≤ maxLen
  cells : 0 < s.n → ∃ b off, s.a = some ⟨b, off, none⟩ ∧ b < w.heap.size ∧ ∀ k x, xs[k]? = some x → ∀ j u, (enc x)[j]? = some u → w.cell? ⟨b, off + (k * (enc x).length + j), none⟩ = some u

section
variable {α : Type} {w w' : World} {enc : α → List Value} {s : Sl} {xs : List α}
theorem Rd.bound (h : Rd w enc s xs) : s.n ≤ 9223372036854775807 := by have h1 := h.max; have h2 := h.cap; unfold maxLen at h1; omega
theorem Rd.step (h : Rd w enc s xs) {k : Nat} (hk : k < s.n) : ∃ b off x, s.a = some ⟨b, off, none⟩ ∧ b < w.heap.size ∧ Hid (xs.drop k = x :: xs.drop (k + 1)) ∧ Hid (xs[k]? = some x) ∧
    ∀ j u, (enc x)[j]? = some u → w.cell? ⟨b, off + (k * (enc x).length + j), none⟩ = some u := by
  obtain ⟨b, off, e, hb, hc⟩ := h.cells (by omega)
  have hl := h.len
  have hx : xs[k]? = some xs[k] := List.getElem?_eq_getElem (show k < xs.length by omega)
  exact ⟨b, off, xs[k], e, hb, List.drop_eq_getElem_cons (by omega), hx, hc k _ hx⟩
theorem Rd.done_ (h : Rd w enc s xs) {k : Nat} (hk : ¬ k < s.n) : xs.drop k = [] := List.drop_eq_nil_of_le (by have := h.len; omega)
theorem Rd.toW (h : Rd w enc s xs) (hb : Below w.heap.size w w') : Rd w' enc s xs :=
  ⟨h.len, h.cap, h.max, fun hn => by
    obtain ⟨b, off, e, hlt, hc⟩ := h.cells hn
    exact ⟨b, off, e, Nat.lt_of_lt_of_le hlt hb.size, fun k x hx j u hu => (hb.cell (p := ⟨b, _, none⟩) hlt).trans (hc k x hx j u hu)⟩⟩
theorem Rd.nil_ (w : World) (enc : α → List Value) : Rd w enc ⟨none, 0, 0⟩ [] := ⟨rfl, Nat.le_refl _, Nat.zero_le _, fun h => absurd h (by simp)⟩
end
/-! Lists of numbers. -/
abbrev encI (x : Int) : List Value := [.int .i64 x]
theorem Rd.int {w : World} {s : Sl} {xs : List Int} (h : Rd w encI s xs) {k : Nat} (hk : k < s.n) : ∃ b off x, s.a = some ⟨b, off, none⟩ ∧ b < w.heap.size ∧ Hid (xs.drop k = x :: xs.drop (k + 1)) ∧ Hid (xs[k]? = some x) ∧
    w.cell? ⟨b, off + k, none⟩ = some (.int .i64 x) := by
  obtain ⟨b, off, x, e, hb, h1, h2, hc⟩ := h.step hk
  exact ⟨b, off, x, e, hb, h1, h2, by simpa using hc 0 _ rfl⟩
end Go.Proofs.YtfajjgkhanjcfaaGreat

/- A slice that was just made reads as what was put in. -/
namespace Go.Proofs.YtfajjgkhanjcfaaGreat
set_option linter.unusedSimpArgs false
set_option linter.unusedVariables false
open Go.RowKit
theorem flat_get {α : Type} {enc : α → List Value} {size : Nat} (hsz : ∀ x, (enc x).length = size) : ∀ (xs : List α) (k : Nat) (x : α), xs[k]? = some x → ∀ (j : Nat) (u : Value), (enc x)[j]? = some u → (xs.flatMap enc)[k * size + j]? = some u
  | [], k, x, h, _, _, _ => by simp at h
  | y :: r, 0, x, h, j, u, hu => by
    simp at h
    subst h
    rw [List.flatMap_cons, Nat.zero_mul, Nat.zero_add]
    rw [List.getElem?_append_left (List.getElem?_eq_some_iff.1 hu).1]
    exact hu
  | y :: r, k + 1, x, h, j, u, hu => by
    have h' : r[k]? = some x := by simpa using h
    have ih := flat_get hsz r k x h' j u hu
    rw [List.flatMap_cons, List.getElem?_append_right (by rw [hsz, Nat.add_mul]; omega), hsz]
    have : (k + 1) * size + j - size = k * size + j := by rw [Nat.add_mul]; omega
    rw [this]
    exact ih
theorem rd_block {α : Type} {w : World} {enc : α → List Value} {size : Nat} (hsz : ∀ x, (enc x).length = size) {b t : Nat} {cs : Array Value} {fr : Nat × Nat} {xs : List α} (hb : w.heap[b]? = some (.cells cs t fr)) (hc : ∀ (i : Nat) (u : Value), (xs.flatMap enc)[i]? = some u → cs[i]? = some u) (hm : xs.length ≤ maxLen) :
    Rd w enc ⟨some ⟨b, 0, none⟩, xs.length, xs.length⟩ xs :=
  ⟨rfl, Nat.le_refl _, hm, fun _ => ⟨b, 0, rfl, (Array.getElem?_eq_some_iff.1 hb).1, fun k x hx j u hu => by
    have := hc _ _ (flat_get hsz xs k x hx j u hu)
    rw [hsz, Nat.zero_add]
    simpa [World.cell?, hb] using this⟩⟩
theorem rd_fresh {α : Type} (w : World) {enc : α → List Value} (size : Nat) (hsz : ∀ x, (enc x).length = size) {t : Nat} {cs : Array Value} (xs : List α) (hc : cs.toList = xs.flatMap enc) (hm : xs.length ≤ maxLen) : Rd (w.alloc (.cells cs t)) enc ⟨some ⟨w.heap.size, 0, none⟩, xs.length, xs.length⟩ xs :=
  rd_block hsz (b := w.heap.size) (t := t) (cs := cs) (fr := (0, 0)) (by show (w.heap.push _)[w.heap.size]? = _; simp) (fun i u h => by rw [← hc] at h; simpa using h) hm
theorem rd_new {α : Type} {w : World} {enc : α → List Value} (size : Nat) (hsz : ∀ x, (enc x).length = size) {t : Nat} {cs : Array Value} (xs : List α) {b n : Nat} (hb : b = w.heap.size) (hn : n = xs.length) (hc : cs.toList = xs.flatMap enc) (hm : xs.length ≤ maxLen) : Rd (w.alloc (.cells cs t)) enc ⟨some ⟨b, 0, none⟩, n, n⟩ xs := by
  subst hb hn
  exact rd_fresh w size hsz xs hc hm
end Go.Proofs.YtfajjgkhanjcfaaGreat

/- What a block of one's own holds: whole-block facts that a letter for a world carries, and worlds in which such a block is written out. No conditions. -/
namespace Go.Proofs.YtfajjgkhanjcfaaGreat
set_option linter.unusedSimpArgs false
set_option linter.unusedVariables false
open Go.RowKit
theorem post_letter {P : Program} {f : Func} {Q : Ending → World → Prop} {x : Exit} {a : Act} {W : World} (h : ∀ w0, Below W.heap.size W w0 → bodyPost P f Q x a w0) : bodyPost P f Q x a W := h W (Below.refl _ _)

/-- The world with block b as o. -/
def Put (w : World) (b : Nat) (o : Obj) : World := { w with heap := w.heap.setIfInBounds b o }
theorem put_self {w : World} {b : Nat} {o : Obj} (h : w.heap[b]? = some o) : Put w b o = w := by
  have hlt : b < w.heap.size := (Array.getElem?_eq_some_iff.1 h).1
  have e : w.heap.setIfInBounds b o = w.heap := by
    apply Array.ext_getElem?
    intro i
    rw [Array.getElem?_setIfInBounds]
    split
    · rename_i hi
      subst hi
      rw [h]
    · rfl
  unfold Put
  rw [e]
@[go_sem] theorem size_put (w : World) (b : Nat) (o : Obj) : (Put w b o).heap.size = w.heap.size := by simp [Put]
@[go_sem] theorem tape_put (w : World) (b : Nat) (o : Obj) : (Put w b o).tape = w.tape := rfl
@[go_sem] theorem drawn_put (w : World) (b : Nat) (o : Obj) : (Put w b o).drawn = w.drawn := rfl
theorem put_block_if (w : World) (b n : Nat) (o : Obj) (h : b < w.heap.size) : (Put w b o).heap[n]? = if n = b then some o else w.heap[n]? := by
  simp only [Put, Array.getElem?_setIfInBounds]
  by_cases e : n = b
  · rw [if_pos e, if_pos e.symm, if_pos (by omega)]
  · rw [if_neg e, if_neg (fun k => e k.symm)]
theorem alloc_block_if (w : World) (o : Obj) (n : Nat) : (w.alloc o).heap[n]? = if n = w.heap.size then some o else w.heap[n]? := by
  show (w.heap.push o)[n]? = _
  rw [Array.getElem?_push]
noncomputable def overRestB (w x : World) (n : Nat) : Option Obj := (Over w x).heap[n]?
theorem over_block_if (w x : World) (n : Nat) : (Over w x).heap[n]? = if n < w.heap.size then w.heap[n]? else overRestB w x n := by
  split
  · exact (over_below w x).block _ ‹_›
  · rfl
def setObj (j : Nat) (v : Value) : Obj → Obj
  | .cells c t f => .cells (c.setIfInBounds j v) t f
  | o => o
theorem setObj_cells (j : Nat) (v : Value) (c : Array Value) (t : TypeId) (f : Nat × Nat) : setObj j v (.cells c t f) = .cells (c.setIfInBounds j v) t f := rfl
theorem set_block_if (w : World) (b j n : Nat) (v : Value) : (w.setCell ⟨b, j, none⟩ v).heap[n]? = if n = b then (w.heap[n]?).map (setObj j v) else w.heap[n]? := by
  simp only [World.setCell, Array.getElem?_modify]
  by_cases e : n = b
  · rw [if_pos e, if_pos e.symm]
    cases w.heap[n]? with
    | none => rfl
    | some o => cases o <;> rfl
  · rw [if_neg e, if_neg (fun k => e k.symm)]
theorem drew_block (w : World) (n : Nat) : w.drew.heap[n]? = w.heap[n]? := rfl
theorem drewN_block (w : World) (k n : Nat) : (w.drewN k).heap[n]? = w.heap[n]? := rfl
theorem cell_of_block {w : World} {b : Nat} {c : Array Value} {t : TypeId} {f : Nat × Nat} (h : w.heap[b]? = some (.cells c t f)) (i : Nat) : w.cell? ⟨b, i, none⟩ = c[i]? := by
  simp [World.cell?, h]
theorem frozen_of_block {w : World} {b : Nat} {c : Array Value} {t : TypeId} (h : w.heap[b]? = some (.cells c t)) (i : Nat) : w.frozen? ⟨b, i, none⟩ = false := by
  simp [World.frozen?, h]
@[go_sem] theorem put_cell_if (w : World) (b : Nat) (c : Array Value) (t : TypeId) (n i : Nat) (h : b < w.heap.size) : (Put w b (.cells c t)).cell? ⟨n, i, none⟩ = if n = b then c[i]? else w.cell? ⟨n, i, none⟩ := by
  split
  · rename_i e
    subst e
    exact cell_of_block (by rw [put_block_if _ _ _ _ h, if_pos rfl]) i
  · rename_i e
    exact World.cell?_of_block (a := ⟨n, i, none⟩) (by rw [put_block_if _ _ _ _ h, if_neg e])
@[go_sem] theorem put_frozen_if (w : World) (b : Nat) (c : Array Value) (t : TypeId) (n i : Nat) (h : b < w.heap.size) : (Put w b (.cells c t)).frozen? ⟨n, i, none⟩ = if n = b then false else w.frozen? ⟨n, i, none⟩ := by
  split
  · rename_i e
    subst e
    exact frozen_of_block (c := c) (t := t) (by rw [put_block_if _ _ _ _ h, if_pos rfl]) i
  · rename_i e
    exact World.frozen?_of_block (a := ⟨n, i, none⟩) (by rw [put_block_if _ _ _ _ h, if_neg e])
theorem world_ext {a b : World} (h1 : a.heap = b.heap) (h2 : a.tape = b.tape) (h3 : a.drawn = b.drawn) (h4 : a.os = b.os) (h5 : a.output = b.output) : a = b := by
  cases a; cases b; simp_all
@[go_sem] theorem put_setCell_if (w : World) (b : Nat) (c : Array Value) (t : TypeId) (n j : Nat) (v : Value) (h : b < w.heap.size) :
    (Put w b (.cells c t)).setCell ⟨n, j, none⟩ v = if n = b then Put w b (.cells (c.setIfInBounds j v) t) else Put (w.setCell ⟨n, j, none⟩ v) b (.cells c t) := by
  have key : ∀ k : Nat, ((Put w b (.cells c t)).setCell ⟨n, j, none⟩ v).heap[k]? = (if n = b then Put w b (.cells (c.setIfInBounds j v) t) else Put (w.setCell ⟨n, j, none⟩ v) b (.cells c t)).heap[k]? := by
    intro k
    rw [set_block_if, put_block_if _ _ _ _ h]
    by_cases e : n = b
    · subst e
      rw [if_pos rfl, put_block_if _ _ _ _ h]
      by_cases e2 : k = n
      · subst e2; simp [setObj]
      · simp [e2]
    · rw [if_neg e, put_block_if _ _ _ _ (by simpa using h), set_block_if]
      by_cases e2 : k = b
      · have : ¬ k = n := fun q => e (by rw [← q, e2])
        simp [e2]
        intro q; exact absurd q.symm e
      · simp [e2]
  exact world_ext (Array.ext_getElem? (by simpa using key)) (by split <;> rfl) (by split <;> rfl) (by split <;> rfl) (by split <;> rfl)
theorem below_put {B : Nat} {a w : World} (h : Below B a w) {b : Nat} (hb : B ≤ b) (o : Obj) : Below B a (Put w b o) := by
  refine h.trans ⟨rfl, rfl, rfl, by simp [Put], fun k hk => ?_⟩
  simp only [Put, Array.getElem?_setIfInBounds]
  rw [if_neg (by omega)]
theorem le_put {n : Nat} {w : World} (h : n ≤ w.heap.size) (b : Nat) (o : Obj) : n ≤ (Put w b o).heap.size := by rw [size_put]; exact h
end Go.Proofs.YtfajjgkhanjcfaaGreat

/- A slice of the call's own that grows: behind an append it reads as the two lists together. No conditions. -/
namespace Go.Proofs.YtfajjgkhanjcfaaGreat
set_option linter.unusedSimpArgs false
set_option linter.unusedVariables false
open Go.RowKit
/-- A row of one's own: the header s owns the elements xs, in a block from base on. -/
structure Own {α : Type} (w : World) (base : Nat) (e : TypeId) (size : Nat) (enc : α → List Value) (s : Sl) (xs : List α) : Prop where
  len : xs.length = s.n
  row : w.ownsRow base e size s.val s.n (xs.flatMap enc)
theorem flat_len {α : Type} {enc : α → List Value} {size : Nat} (hsz : ∀ x, (enc x).length = size) : ∀ xs : List α, (xs.flatMap enc).length = xs.length * size
  | [] => by simp
  | x :: r => by rw [List.flatMap_cons, List.length_append, hsz, flat_len hsz r, List.length_cons, Nat.add_mul]; omega
section
variable {α : Type} {w : World} {base : Nat} {e : TypeId} {size : Nat} {enc : α → List Value} {s : Sl} {xs : List α}
theorem Own.nil_ (w : World) (base : Nat) (e : TypeId) (size : Nat) (enc : α → List Value) : Own w base e size enc ⟨none, 0, 0⟩ [] := ⟨rfl, World.ownsRow_nil w base e size⟩
theorem Own.kept {w' : World} {row : Option Nat} (h : Own w base e size enc s xs) (hg : w.grownBy w' row) (hne : s.val.ownBlock = none ∨ s.val.ownBlock ≠ row) : Own w' base e size enc s xs := ⟨h.len, h.row.kept hg hne⟩
theorem Own.block (h : Own w base e size enc s xs) : ∀ g, s.val.ownBlock = some g → base ≤ g ∧ g < w.heap.size := h.row.lt
theorem Own.same {w' : World} (h : Own w base e size enc s xs) (hb : ∀ g, s.val.ownBlock = some g → w'.heap[g]? = w.heap[g]?) : Own w' base e size enc s xs := by
  refine ⟨h.len, h.row.1, ?_⟩
  rcases h.row.2 with h2 | ⟨g, cap, cur, hv, h3, h4, h5⟩
  · exact .inl h2
  · exact .inr ⟨g, cap, cur, hv, h3, by rw [hb g (by rw [hv]; rfl)]; exact h4, h5⟩
theorem Own.rd (h : Own w base e size enc s xs) (hsz : ∀ x, (enc x).length = size) : Rd w enc s xs := by
  obtain ⟨a, n, c⟩ := s
  have hl : xs.length = n := h.len
  rcases h.row.2 with ⟨hv, hn⟩ | ⟨g, cap, cur, hv, hb, hg, hc, hm, hs, ht⟩
  · have hn' : n = 0 := hn
    injection hv with h1 h2 h3
    subst hn'
    subst h1 h3
    exact ⟨hl, Nat.le_refl _, Nat.zero_le _, fun hn => absurd hn (by simp)⟩
  · injection hv with h1 h2 h3
    subst h1 h3
    refine ⟨hl, hc, hm, fun hn => ⟨g, 0, rfl, (Array.getElem?_eq_some_iff.1 hg).1, fun k x hx j u hu => ?_⟩⟩
    have h1 := flat_get hsz xs k x hx j u hu
    rw [← ht, List.getElem?_take] at h1
    split at h1
    · rw [hsz, Nat.zero_add]
      simp only [World.cell?, hg]
      simpa using h1
    · cases h1
end
section
variable {P : Program} {w : World} {α : Type} {enc : α → List Value}
theorem run_append_rd (base : Nat) (t ty e : TypeId) (i : TypeInfo) (z : Value) (size bytes : Nat) (ht : P.underlying t = some (.slice e)) (hi : P.info? e = some i) (hz : i.zero = some z)
    (hsize : i.size = size) (hby : i.bytes = bytes) (hzs : z.cells.size = size) (hsz : 0 < size) (hen : ∀ y, (enc y).length = size) (h1 : ∀ y : α, ∀ u ∈ enc y, u.oneCell' = true)
    {s y : Sl} {xs ys : List α} (hown : Own w base e size enc s xs) (hr : Rd w enc y ys) (h63 : s.n + y.n ≤ maxLen) (hbytes : (s.n + y.n) * bytes ≤ 140737488355328) (hbase : base ≤ w.heap.size) :
    ∃ v' w', (Builtin.append_ #[t, t] ty #[s.val, y.val]).run P w = .ok (Sl.val v') w' ∧ Own w' base e size enc v' (xs ++ ys) ∧ w.grownBy w' s.val.ownBlock ∧ (v'.val.ownBlock = s.val.ownBlock ∨ v'.val.ownBlock = some w.heap.size) := by
  have form : ∀ {w' : World} {v' : Value} {n : Nat} {cs : List Value}, w'.ownsRow base e size v' n cs → ∃ q : Sl, v' = q.val ∧ q.n = n := by
    intro w' v' n cs h
    rcases h.2 with ⟨rfl, rfl⟩ | ⟨g, cap, cur, rfl, _⟩
    · exact ⟨⟨none, 0, 0⟩, rfl, rfl⟩
    · exact ⟨⟨_, n, cap⟩, rfl, rfl⟩
  obtain ⟨A, m, c⟩ := y
  cases A with
  | none =>
    have hm : m = 0 := by
      rcases Nat.eq_zero_or_pos m with h0 | h0
      · exact h0
      · obtain ⟨b, off, h, _⟩ := hr.cells h0
        cases h
    subst hm
    have hys : ys = [] := List.eq_nil_of_length_eq_zero hr.len
    subst hys
    refine ⟨s, w, ?_, by rw [List.append_nil]; exact hown, World.grownBy.refl w _, .inl rfl⟩
    rcases hown.row.2 with ⟨hv, hn⟩ | ⟨g, cap, cur, hv, _, _, hnc, _⟩
    · rw [hv]
      simp [Builtin.append_, run_underlying ht, sizeOf, typeInfo, hi, Builtin.lenOf, Builtin.firstCells]
    · rw [hv]
      simp [Builtin.append_, run_underlying ht, sizeOf, typeInfo, hi, Builtin.lenOf, Builtin.firstCells, hnc, storeCells]
  | some ad =>
    have hl : (ys.flatMap enc).length = m * size := by rw [flat_len hen]; have := hr.len; dsimp only at this; rw [this]
    have hcells : ∀ j u, (ys.flatMap enc)[j]? = some u → w.cell? (ad.add j) = some u := by
      intro j u hu
      have hjl : j < m * size := by rw [← hl]; exact (List.getElem?_eq_some_iff.1 hu).1
      have hm0 : 0 < m := by
        rcases Nat.eq_zero_or_pos m with h0 | h0
        · subst h0; omega
        · exact h0
      obtain ⟨b, off, he, _, hc⟩ := hr.cells hm0
      cases he
      have hd : j / size < ys.length := by have := hr.len; dsimp only at this; rw [this]; exact (Nat.div_lt_iff_lt_mul hsz).2 hjl
      have hyk : ys[j / size]? = some ys[j / size] := List.getElem?_eq_getElem hd
      have hmod : j % size < (enc ys[j / size]).length := by rw [hen]; exact Nat.mod_lt _ hsz
      have h2 := hc _ _ hyk (j % size) _ (List.getElem?_eq_getElem hmod)
      have h3 := flat_get hen ys _ _ hyk (j % size) _ (List.getElem?_eq_getElem hmod)
      have hj : j / size * size + j % size = j := by rw [Nat.mul_comm]; exact Nat.div_add_mod j size
      rw [hj] at h3
      rw [h3] at hu
      cases hu
      rw [hen, hj] at h2
      unfold Addr.add
      split
      · rename_i h0
        subst h0
        simpa using h2
      · simpa using h2
    have hone : ∀ u ∈ ys.flatMap enc, u.oneCell' = true := by
      intro u hu
      obtain ⟨y, _, hy⟩ := List.mem_flatMap.1 hu
      exact h1 y u hy
    obtain ⟨v', w', hrun, h2, h3, _, h5⟩ := run_append_own_at (P := P) w base t ty e i z size bytes ht hi hz hsize hby hzs hsz s.val s.n (xs.flatMap enc) hown.row ad m c (ys.flatMap enc) hl hcells hone h63 hbytes hbase
    obtain ⟨q, rfl, hq⟩ := form h2
    refine ⟨q, w', hrun, ⟨?_, ?_⟩, h3, h5⟩
    · rw [List.length_append, hown.len, hq]; have := hr.len; dsimp only at this ⊢; rw [this]
    · rw [List.flatMap_append, hq]; exact h2
theorem wpList_append_rd {ops : Array Oper} {rest : List Oper} {o : Oper} {a : Act} {Q : Exit → Act → World → Prop} (hgd : o.guard = none) (so xo : Operand) (t : TypeId)
    (ho : o.op = .call { callee := .builtin .append, args := #[so, xo], argTypes := #[t, t] })
    (base : Nat) (e : TypeId) (i : TypeInfo) (z : Value) (size bytes : Nat) (ht : P.underlying t = some (.slice e)) (hi : P.info? e = some i) (hz : i.zero = some z)
    (hsize : i.size = size) (hby : i.bytes = bytes) (hzs : z.cells.size = size) (hsz : 0 < size) (hen : ∀ y, (enc y).length = size) (h1 : ∀ y : α, ∀ u ∈ enc y, u.oneCell' = true)
    {s y : Sl} {xs ys : List α} (hs : a.eval so = s.val) (hx : a.eval xo = y.val) (hown : Own w base e size enc s xs) (hr : Rd w enc y ys) (h63 : s.n + y.n ≤ maxLen) (hbytes : (s.n + y.n) * bytes ≤ 140737488355328) (hbase : base ≤ w.heap.size)
    (h : ∀ (v' : Sl) w', Own w' base e size enc v' (xs ++ ys) → w.grownBy w' s.val.ownBlock → (v'.val.ownBlock = s.val.ownBlock ∨ v'.val.ownBlock = some w.heap.size) → wpList P ops Q rest (a.put o.dst v'.val) w') : wpList P ops Q (o :: rest) a w :=
  wpList_plain hgd fun K hK => by
    obtain ⟨v', w', hrun, h2, h3, h4⟩ := run_append_rd (P := P) base t o.type e i z size bytes ht hi hz hsize hby hzs hsz hen h1 hown hr h63 hbytes hbase
    unfold Oper.wp execOp
    simp only [ho, resolve, invoke, builtin, Sem.run_bind, Sem.run_pure, Result.andThen_ok, List.map_toArray, List.map_cons, List.map_nil, hs, hx, hrun]
    exact hK _ _ (h v' w' h2 h3 h4)
end
end Go.Proofs.YtfajjgkhanjcfaaGreat

/- Rows of the call's own: small laws; lists of numbers. -/
namespace Go.Proofs.YtfajjgkhanjcfaaGreat
set_option linter.unusedSimpArgs false
set_option linter.unusedVariables false
open Go.RowKit
theorem i64_wf {n : Int} (h0 : -9223372036854775808 ≤ n) (h1 : n ≤ 9223372036854775807) : (Lit.int .i64 n).wf = true := by
  have a : IntKind.i64.min = -9223372036854775808 := by decide
  have b : IntKind.i64.max = 9223372036854775807 := by decide
  simp only [Lit.wf, a, b, Bool.and_eq_true, decide_eq_true_eq]
  exact ⟨h0, h1⟩
theorem below_grown {w w' : World} (h : w.grownBy w' none) : Below w.heap.size w w' := ⟨h.os, h.tape, h.output, h.size, fun k hk => h.block k hk (by simp)⟩
theorem Own.alloc' {α : Type} {enc : α → List Value} {w : World} {base : Nat} {e : TypeId} {size : Nat} {s : Sl} {xs : List α} (h : Own w base e size enc s xs) (o : Obj) : Own (w.alloc o) base e size enc s xs :=
  h.same (fun g hg => by rw [alloc_block_if, if_neg (by have := (h.block g hg).2; omega)])
theorem Own.toW {α : Type} {enc : α → List Value} {w w' : World} {base : Nat} {e : TypeId} {size : Nat} {s : Sl} {xs : List α} (h : Own w base e size enc s xs) (hb : Below w.heap.size w w') : Own w' base e size enc s xs :=
  h.same (fun g hg => hb.block g (h.block g hg).2)
theorem Own.put {α : Type} {enc : α → List Value} {w : World} {base : Nat} {e : TypeId} {size : Nat} {s : Sl} {xs : List α} (h : Own w base e size enc s xs) {b : Nat} {o : Obj} (hb : b < w.heap.size) (hne : ∀ g, s.val.ownBlock = some g → g ≠ b) : Own (Put w b o) base e size enc s xs :=
  h.same (fun g hg => by rw [put_block_if _ _ _ _ hb, if_neg (hne g hg)])
theorem Own.base {α : Type} {enc : α → List Value} {w : World} {base b' : Nat} {e : TypeId} {size : Nat} {s : Sl} {xs : List α} (h : Own w base e size enc s xs) (hb : b' ≤ base) : Own w b' e size enc s xs := by
  refine ⟨h.len, h.row.1, ?_⟩
  rcases h.row.2 with h2 | ⟨g, cap, cur, hv, h3, h4⟩
  · exact .inl h2
  · exact .inr ⟨g, cap, cur, hv, Nat.le_trans hb h3, h4⟩
theorem own_empty {α : Type} {enc : α → List Value} (w : World) (e : TypeId) (size : Nat) : Own (w.alloc (.cells #[] e)) w.heap.size e size enc ⟨some ⟨w.heap.size, 0, none⟩, 0, 0⟩ ([] : List α) :=
  ⟨rfl, by simp, .inr ⟨w.heap.size, 0, #[], rfl, Nat.le_refl _, by rw [alloc_block_if, if_pos rfl], Nat.le_refl _, Nat.zero_le _, by simp, by simp⟩⟩
theorem rd_lit {α : Type} {w : World} {enc : α → List Value} (size : Nat) (hsz : ∀ x, (enc x).length = size) {b t n : Nat} {cs : Array Value} {fr : Nat × Nat} (xs : List α) (hb : w.heap[b]? = some (.cells cs t fr)) (hc : cs.toList = xs.flatMap enc) (hn : n = xs.length) (hm : xs.length ≤ maxLen) :
    Rd w enc ⟨some ⟨b, 0, none⟩, n, n⟩ xs := by
  subst hn
  exact rd_block hsz hb (fun i u h => by rw [← hc] at h; simpa using h) hm
theorem rd_take {α : Type} {w : World} {enc : α → List Value} {A : Option Addr} {n c : Nat} {xs : List α} (h : Rd w enc ⟨A, n, c⟩ xs) {k : Nat} (hk : k ≤ n) : Rd w enc ⟨A, k, c⟩ (xs.take k) := by
  have hl : xs.length = n := h.len
  have hc : n ≤ c := h.cap
  refine ⟨by simp only [List.length_take]; omega, by simp only; omega, h.max, fun hn => ?_⟩
  obtain ⟨b, off, e, hb, hcell⟩ := h.cells (by simp only at hn ⊢; omega)
  refine ⟨b, off, e, hb, fun i x hx j u hu => hcell i x ?_ j u hu⟩
  rw [List.getElem?_take] at hx
  split at hx
  · exact hx
  · cases hx
theorem rd_drop {α : Type} {w : World} {enc : α → List Value} {b off n c q size : Nat} {xs : List α} (h : Rd w enc ⟨some ⟨b, off, none⟩, n, c⟩ xs) (hq : q ≤ n) (hs : ∀ x, (enc x).length = size) :
    Rd w enc ⟨if c = q then some ⟨b, off, none⟩ else some ⟨b, off + q * size, none⟩, n - q, c - q⟩ (xs.drop q) := by
  have h1 : xs.length = n := h.len
  have h2 : n ≤ c := h.cap
  have h3 : c ≤ maxLen := h.max
  refine ⟨by rw [List.length_drop, h1], by dsimp only; omega, by dsimp only; omega, fun hn => ?_⟩
  dsimp only at hn
  obtain ⟨b', off', e, hb, hc⟩ := h.cells (show 0 < n by omega)
  cases e
  refine ⟨b, off + q * size, if_neg (by omega), hb, fun k x hx j u hu => ?_⟩
  rw [List.getElem?_drop] at hx
  have := hc (q + k) x hx j u hu
  rw [hs] at this ⊢
  rw [Nat.add_mul] at this
  have e : off + (q * size + k * size + j) = off + q * size + (k * size + j) := by omega
  rw [e] at this
  exact this
theorem info_int : (Tryz.prog.info? 3).map (fun i => (i.zero, i.size, i.bytes)) = some (some (.int .i64 0), 1, 8) := by kernel_rfl
theorem one_int (h : Int) : ∀ u ∈ encI h, u.oneCell' = true := by intro u hu; simp [encI] at hu; subst hu; rfl
abbrev OwnI (w : World) (base : Nat) (s : Sl) (xs : List Int) : Prop := Own w base 3 1 encI s xs
def OwnIPost (xs : List Int) (w : World) (e : Ending) (w' : World) : Prop := ∃ v : Sl, e = .returned v.val ∧ Below w.heap.size w w' ∧ OwnI w' w.heap.size v xs
abbrev Inc (l : List Int) : Prop := l.Pairwise (fun a b => a < b)
theorem inc_nodup {l : List Int} (h : Inc l) : l.Nodup := h.imp (fun {a b} hab e => by omega)
abbrev sortI (l : List Int) : List Int := l.mergeSort fun x y => decide (x ≤ y)
theorem sort_inc {l m : List Int} (hl : l.Nodup) (hm : Inc m) (h : ∀ y, y ∈ l ↔ y ∈ m) : sortI l = m := by
  have hmn : m.Nodup := hm.imp (fun {a b} hab e => by omega)
  have hp : l.Perm m := (List.perm_ext_iff_of_nodup hl hmn).2 h
  have tr : ∀ a b c : Int, decide (a ≤ b) = true → decide (b ≤ c) = true → decide (a ≤ c) = true := fun a b c h1 h2 => by simp at *; omega
  have tot : ∀ a b : Int, (decide (a ≤ b) || decide (b ≤ a)) = true := fun a b => by simp; omega
  refine List.Perm.eq_of_pairwise (le := fun a b => decide (a ≤ b) = true) (fun a b _ _ h1 h2 => ?_) (List.pairwise_mergeSort tr tot l) (hm.imp (fun {a b} hab => by simp; omega)) ((List.mergeSort_perm l _).trans hp)
  simp at h1 h2; omega
theorem nodup_len {l : List Int} : ∀ {m : List Int}, l.Nodup → (∀ x ∈ l, x ∈ m) → l.length ≤ m.length := by
  induction l with
  | nil => intro m _ _; exact Nat.zero_le _
  | cons a r ih =>
    intro m hn hs
    obtain ⟨h1, h2⟩ := List.nodup_cons.1 hn
    have ha := hs a (List.mem_cons_self ..)
    have h3 := ih (m := m.erase a) h2 (fun x hx => (List.mem_erase_of_ne (fun e => h1 (by rw [← e]; exact hx))).2 (hs x (List.mem_cons_of_mem _ hx)))
    have h4 := List.length_erase_of_mem ha
    have h5 := List.length_pos_of_mem ha
    simp only [List.length_cons]
    omega
theorem flatI : ∀ xs : List Int, xs.flatMap encI = xs.map (Value.int .i64)
  | [] => rfl
  | x :: r => by rw [List.flatMap_cons, flatI r]; rfl
end Go.Proofs.YtfajjgkhanjcfaaGreat

/- A region that draws its order, walked in ONE order of my own choosing: what yields one value in every world of a class is taken first; a call whose result hangs on the world is taken where nothing else may come up. -/
namespace Go.Proofs.YtfajjgkhanjcfaaGreat
set_option linter.unusedSimpArgs false
set_option linter.unusedVariables false
open Go.RowKit

def plainB : Op → Bool
  | .move _ | .assign _ | .pick .. | .load .. | .binOp .. | .unOp .. | .fieldAddr .. | .field .. | .indexAddr .. | .index .. | .extract .. | .slice .. | .convert .. => true
  | _ => false
theorem then_value {s : Sem Value} {P : Program} {w w' : World} {n : Next} (h : ((do pure (Next.value (← s))) : Sem Next).run P w = .ok n w') : ∃ v, n = .value v := by
  simp only [Sem.run_bind] at h
  cases hs : s.run P w with
  | ok a w1 => rw [hs] at h; simp at h; exact ⟨a, h.1.symm⟩
  | halt x w1 => rw [hs] at h; simp at h
theorem plain_ok {o : Oper} (h : plainB o.op = true) {ρ : Operand → Value} {P : Program} {w w' : World} {n : Next} (hr : (execOp ρ o).run P w = .ok n w') : ∃ v, n = .value v := by
  obtain ⟨dst, op, type, pos, after, guard⟩ := o
  cases op <;> simp only [plainB] at h <;> first | exact absurd h (by decide) | (unfold execOp at hr; exact then_value hr) | (unfold execOp at hr; simp at hr; exact ⟨_, hr.1.symm⟩) | skip
  rename_i c x y
  unfold execOp at hr
  simp only [Sem.run_bind] at hr
  cases hs : (asBool (ρ c)).run P w with
  | ok a w1 => rw [hs] at hr; simp at hr; exact ⟨_, hr.1.symm⟩
  | halt x w1 => rw [hs] at hr; simp at hr

section
variable {P : Program} {ops : Array Oper} {Q : Exit → Act → World → Prop} {S : World → Prop}
/-- The numbers ks may be taken first, one behind the other. -/
def takesB (ops : Array Oper) : List Nat → Array Bool → Bool
  | [], _ => true
  | k :: r, listed => (Region.ready .any ops listed).contains k && Region.free .any ops listed k && takesB ops r (listed.setIfInBounds k true)
def listAll : List Nat → Array Bool → Array Bool
  | [], listed => listed
  | k :: r, listed => listAll r (listed.setIfInBounds k true)
theorem wpAnyH_quiet (hs : Region.noSelect ops = true) (hQ : ∀ c (a : Act) (d : Tmp) v w, Q (.panic c) (a.put (some d) v) w → Q (.panic c) a w) :
    ∀ (ks : List Nat) (l : List Oper) (fuel : Nat) (listed : Array Bool) (a : Act) (w : World), ks.map (fun k => ops[k]?) = l.map some → l.all (fun o => plainB o.op) = true → takesB ops ks listed = true → S w →
      wpQuiet P ops S (fun a' => wpAnyH P .any ops Q S fuel (listAll ks listed) a' w) l a → wpAnyH P .any ops Q S (fuel + ks.length) listed a w
  | [], [], _, _, _, _, _, _, _, _, h => h
  | [], _ :: _, _, _, _, _, he, _, _, _, _ => by cases he
  | _ :: _, [], _, _, _, _, he, _, _, _, _ => by cases he
  | k :: ks, o :: l, fuel, listed, a, w, he, hp, ht, hS, h => by
    simp only [List.map_cons, List.cons.injEq] at he
    simp only [List.all_cons, Bool.and_eq_true] at hp
    simp only [takesB, Bool.and_eq_true] at ht
    obtain ⟨⟨h1, h2⟩, h3⟩ := ht
    have key : ∃ v, YieldsIf P ops S o v a ∧ wpQuiet P ops S (fun a' => wpAnyH P .any ops Q S fuel (listAll ks (listed.setIfInBounds k true)) a' w) l (a.put o.dst v) := by
      unfold wpQuiet at h
      split at h
      · rename_i hw
        obtain ⟨v, hv, hn⟩ := h
        refine ⟨v, .inl ⟨hw, fun w' hw' => ?_⟩, hn⟩
        have hq := hv w' hw'
        unfold Oper.quietAt at hq
        generalize hr : (execOp a.eval o).run P w' = r at hq
        cases r with
        | ok n w1 =>
          obtain ⟨u, rfl⟩ := plain_ok hp.1 hr
          simp only [Oper.quietUpon] at hq
          rw [hq.1, hq.2]
        | halt x w1 => simp only [Oper.quietUpon] at hq
      · rename_i hw
        exact ⟨undef, .inr ⟨by simpa using hw, rfl⟩, h⟩
    obtain ⟨v, hy, hn⟩ := key
    have := wpAnyH_quiet hs hQ ks l fuel (listed.setIfInBounds k true) (a.put o.dst v) w he.2 hp.2 h3 hS hn
    exact wpAnyH_take he.1 hs h2 h1 (fun c a w hh => by cases hd : o.dst with | none => rw [hd] at hh; exact hh | some d => rw [hd] at hh; exact hQ c a d _ w hh) hy hS this
theorem at_of_drop {l : List Oper} {k : Nat} {o : Oper} {rest : List Oper} (h : l.drop k = o :: rest) : l.toArray[k]? = some o := by
  have e : (l.drop k)[0]? = l[k + 0]? := List.getElem?_drop
  rw [h] at e
  have e2 : l[k]? = some o := e.symm
  rw [List.getElem?_toArray]
  exact e2
/-- One plain operation, taken first. -/
theorem wpAnyH_one {l rest : List Oper} (k : Nat) {o : Oper} {fuel : Nat} {listed : Array Bool} {a : Act} {w : World} (ho : l.drop k = o :: rest) (hp : plainB o.op = true) (hs : Region.noSelect l.toArray = true) (ht : takesB l.toArray [k] listed = true)
    (hQ : ∀ c (a : Act) (d : Tmp) v w, Q (.panic c) (a.put (some d) v) w → Q (.panic c) a w) (hS : S w) (h : wpQuiet P l.toArray S (fun a' => wpAnyH P .any l.toArray Q S fuel (listed.setIfInBounds k true) a' w) [o] a) : wpAnyH P .any l.toArray Q S (fuel + 1) listed a w :=
  wpAnyH_quiet hs hQ [k] [o] fuel listed a w (by simp only [List.map_cons, List.map_nil, at_of_drop ho]) (by simp [hp]) ht hS h
/-- Number k alone may come up: it is carried out in the world at hand; behind it the class is shown anew. -/
theorem wpAnyH_sole {l rest : List Oper} (k : Nat) {o : Oper} {fuel : Nat} {listed : Array Bool} {a : Act} {w : World} (ho : l.drop k = o :: rest) (hr : Region.ready .any l.toArray listed = [k])
    (h : ∀ K : Act → World → Prop, (∀ a' w', S w' → wpAnyH P .any l.toArray Q S fuel (listed.setIfInBounds k true) a' w' → K a' w') → if Region.wanted o (yielded l.toArray a.tmps) = true then o.wp P a w K Q else K (a.put o.dst undef) w) :
    wpAnyH P .any l.toArray Q S (fuel + 1) listed a w :=
  wpAnyH_all hr (by simp) fun i hi => by
    obtain rfl : i = k := by simpa using hi
    have h1 := h (fun a' w' => S w' ∧ wpAnyH P .any l.toArray Q S fuel (listed.setIfInBounds i true) a' w') (fun _ _ hs hw => ⟨hs, hw⟩)
    unfold wpOp
    simp only [at_of_drop ho]
    split
    · rename_i hw; rw [if_pos hw] at h1; exact .inl h1
    · rename_i hw; rw [if_neg hw] at h1; exact h1
/-- Either of two may come up. -/
theorem wpAnyH_two {ops : Array Oper} (k1 k2 : Nat) {fuel : Nat} {listed : Array Bool} {a : Act} {w : World} (hr : Region.ready .any ops listed = [k1, k2])
    (h1 : wpOp P ops Q k1 (fun a' w' => S w' ∧ wpAnyH P .any ops Q S fuel (listed.setIfInBounds k1 true) a' w') a w) (h2 : wpOp P ops Q k2 (fun a' w' => S w' ∧ wpAnyH P .any ops Q S fuel (listed.setIfInBounds k2 true) a' w') a w) :
    wpAnyH P .any ops Q S (fuel + 1) listed a w :=
  wpAnyH_all hr (by simp) fun i hi => by
    simp only [List.mem_cons, List.not_mem_nil, or_false] at hi
    rcases hi with rfl | rfl
    · exact h1
    · exact h2
theorem wpOp_at {l rest : List Oper} {k : Nat} {o : Oper} {a : Act} {w : World} {F : Act → World → Prop} (ho : l.drop k = o :: rest)
    (h : ∀ K : Act → World → Prop, (∀ a' w', S w' → F a' w' → K a' w') → if Region.wanted o (yielded l.toArray a.tmps) = true then o.wp P a w K Q else K (a.put o.dst undef) w) : wpOp P l.toArray Q k (fun a' w' => S w' ∧ F a' w') a w := by
  have h1 := h (fun a' w' => S w' ∧ F a' w') (fun _ _ hs hw => ⟨hs, hw⟩)
  unfold wpOp
  simp only [at_of_drop ho]
  split
  · rename_i hw; rw [if_pos hw] at h1; exact .inl h1
  · rename_i hw; rw [if_neg hw] at h1; exact h1
theorem wp_region_ord {id : Nat} {l : List Oper} {a : Act} {w : World} (hm : P.follows .mixedOrders = true)
    (h : ∀ x, Below w.heap.size w x → wpAnyH P .any l.toArray Q (fun w' => ∃ x, w' = Over w x) l.length (Array.replicate l.length false) a x) : (Code.region id l.toArray true).wp P Q a w :=
  wp_region_held hm (by simpa using h { w with drawn := w.drawn + 1 } ⟨rfl, rfl, rfl, Nat.le_refl _, fun _ _ => rfl⟩)
end
end Go.Proofs.YtfajjgkhanjcfaaGreat

/- A region that draws its order and grows a row of the call's own: walked in one order, over a class that keeps what lies below an earlier world. -/
namespace Go.Proofs.YtfajjgkhanjcfaaGreat
set_option linter.unusedSimpArgs false
set_option linter.unusedVariables false
open Go.RowKit
section
variable {P : Program} {Q : Exit → Act → World → Prop} {α : Type} {enc : α → List Value}
theorem wp_region_ord2 {id : Nat} {l : List Oper} {a : Act} {w w0 : World} (hm : P.follows .mixedOrders = true) (hb : Below w0.heap.size w0 w)
    (h : ∀ x, Below w.heap.size w x → Below w0.heap.size w0 x → wpAnyH P .any l.toArray Q (fun w' => ∃ x, w' = Over w0 x) l.length (Array.replicate l.length false) a x) : (Code.region id l.toArray true).wp P Q a w :=
  have h1 : Below w.heap.size w { w with drawn := w.drawn + 1 } := ⟨rfl, rfl, rfl, Nat.le_refl _, fun _ _ => rfl⟩
  wp_region_held hm (by simpa using h { w with drawn := w.drawn + 1 } h1 (hb.trans (h1.mono hb.size)))
theorem oper_append_rd {o : Oper} {a : Act} {K : Act → World → Prop} {w : World} (so xo : Operand) (t : TypeId) (ho : o.op = .call { callee := .builtin .append, args := #[so, xo], argTypes := #[t, t] })
    (base : Nat) (e : TypeId) (i : TypeInfo) (z : Value) (size bytes : Nat) (ht : P.underlying t = some (.slice e)) (hi : P.info? e = some i) (hz : i.zero = some z)
    (hsize : i.size = size) (hby : i.bytes = bytes) (hzs : z.cells.size = size) (hsz : 0 < size) (hen : ∀ y, (enc y).length = size) (h1 : ∀ y : α, ∀ u ∈ enc y, u.oneCell' = true)
    {s y : Sl} {xs ys : List α} (hs : a.eval so = s.val) (hx : a.eval xo = y.val) (hown : Own w base e size enc s xs) (hr : Rd w enc y ys) (h63 : s.n + y.n ≤ maxLen) (hbytes : (s.n + y.n) * bytes ≤ 140737488355328) (hbase : base ≤ w.heap.size)
    (h : ∀ (v' : Sl) w', Own w' base e size enc v' (xs ++ ys) → w.grownBy w' s.val.ownBlock → (v'.val.ownBlock = s.val.ownBlock ∨ v'.val.ownBlock = some w.heap.size) → K (a.put o.dst v'.val) w') : o.wp P a w K Q := by
  obtain ⟨v', w', hrun, h2, h3, h4⟩ := run_append_rd (P := P) base t o.type e i z size bytes ht hi hz hsize hby hzs hsz hen h1 hown hr h63 hbytes hbase
  unfold Oper.wp execOp
  simp only [ho, resolve, invoke, builtin, Sem.run_bind, Sem.run_pure, Result.andThen_ok, List.map_toArray, List.map_cons, List.map_nil, hs, hx, hrun]
  exact h v' w' h2 h3 h4
theorem Own.alloc {w : World} {base : Nat} {e : TypeId} {size : Nat} {s : Sl} {xs : List α} (h : Own w base e size enc s xs) (o : Obj) : Own (w.alloc o) base e size enc s xs :=
  h.same (fun g hg => by rw [alloc_block_if, if_neg (by have := (h.block g hg).2; omega)])
end
end Go.Proofs.YtfajjgkhanjcfaaGreat

/- A region that draws its order: what the class asks, shown once for a run of plain operations. -/
namespace Go.Proofs.YtfajjgkhanjcfaaGreat
set_option linter.unusedSimpArgs false
set_option linter.unusedVariables false
open Go.RowKit
section
variable {P : Program} {ops : Array Oper} {Q : Exit → Act → World → Prop} {S : World → Prop}
theorem wpAnyH_keep {fuel : Nat} {listed : Array Bool} {a : Act} {w : World} (hS : S w) (h : Hid (S w) → wpAnyH P .any ops Q S fuel listed a w) : wpAnyH P .any ops Q S fuel listed a w := h (Lib.hid hS)
end
end Go.Proofs.YtfajjgkhanjcfaaGreat

/- A contract at a call whose arguments are compared apart, by reducible unfolding alone: an arm that does not fit fails at once. -/
namespace Go.Proofs.YtfajjgkhanjcfaaGreat
set_option linter.unusedSimpArgs false
set_option linter.unusedVariables false
theorem calls_args {P : Program} {f : FuncId} {a a' : Array Value} {w : World} {Q : Ending → World → Prop} (h : Calls P f a w Q) (e : a = a') : Calls P f a' w Q := e ▸ h
end Go.Proofs.YtfajjgkhanjcfaaGreat

/- A region that draws its order, reads some blocks and stores into others: the class of worlds that agree on the blocks read. -/
namespace Go.Proofs.YtfajjgkhanjcfaaGreat
set_option linter.unusedSimpArgs false
set_option linter.unusedVariables false
open Go.RowKit
def KeepB (bs : List Nat) (w x : World) : Prop := ∀ b ∈ bs, x.heap[b]? = w.heap[b]?
open Classical in
noncomputable def OverK (bs : List Nat) (w x : World) : World := if KeepB bs w x then x else w
theorem overK_keep (bs : List Nat) (w x : World) : KeepB bs w (OverK bs w x) := by
  unfold OverK; split
  · assumption
  · exact fun _ _ => rfl
theorem overK_ex {bs : List Nat} {w x : World} (h : KeepB bs w x) : ∃ y, x = OverK bs w y := ⟨x, by unfold OverK; rw [if_pos h]⟩
@[go_sem] theorem overK_cell (bs : List Nat) (w x : World) (n i : Nat) (h : n ∈ bs) : (OverK bs w x).cell? ⟨n, i, none⟩ = w.cell? ⟨n, i, none⟩ := by
  have := overK_keep bs w x n h
  simp [World.cell?, this]
theorem KeepB.put {bs : List Nat} {w x : World} (h : KeepB bs w x) {b : Nat} (o : Obj) (hb : b ∉ bs) : KeepB bs w (Put x b o) := fun c hc => by
  have hne : ¬ c = b := fun e => hb (e ▸ hc)
  have : (Put x b o).heap[c]? = x.heap[c]? := by
    simp only [Put, Array.getElem?_setIfInBounds]
    rw [if_neg (fun e => hne e.symm)]
  exact this.trans (h c hc)
theorem KeepB.below {bs : List Nat} {w x : World} (hb : Below w.heap.size w x) (h : ∀ b ∈ bs, b < w.heap.size) : KeepB bs w x := fun b hm => hb.block b (h b hm)
section
variable {P : Program} {ops : Array Oper} {Q : Exit → Act → World → Prop}
theorem wp_region_keep (bs : List Nat) {id : Nat} {l : List Oper} {a : Act} {w : World} (hm : P.follows .mixedOrders = true)
    (h : ∀ x, Below w.heap.size w x → wpAnyH P .any l.toArray Q (fun w' => ∃ y, w' = OverK bs w y) l.length (Array.replicate l.length false) a x) : (Code.region id l.toArray true).wp P Q a w :=
  wp_region_held hm (by simpa using h { w with drawn := w.drawn + 1 } ⟨rfl, rfl, rfl, Nat.le_refl _, fun _ _ => rfl⟩)
end
end Go.Proofs.YtfajjgkhanjcfaaGreat
