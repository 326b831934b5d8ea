/- Words used by all walks of this seat: the world behind a call that only made memory; a slice that reads as a list; a region that draws its order over such worlds. No conditions. -/
import Derived.WalkKit
import Derived.WalkSpells
import Derived.WalkLawsBesides
import Derived.Handy
import Derived.Deep.QuietTactic
import Derived.BigQuiet
import Derived.Deep.AppendLies
import Derived.Laws.OwnMore
import Derived.Deep.Draws
import Derived.Lib.Hide
import Derived.Deep.Light
import Derived.BigGuardPart
import Derived.Deep.DeepCutAuto
namespace Go.Proofs.Ytoafgpeghokhgaa
set_option linter.unusedSimpArgs false
set_option linter.unusedVariables false
open Go.RowKit

theorem ret_int {k : IntKind} {a b : Int} (h : a = b) : Ending.returned (.int k a) = .returned (.int k b) := by rw [h]
theorem ret_bool {a b : Bool} (h : a = b) : Ending.returned (.bool a) = .returned (.bool b) := by rw [h]

open Classical in
/-- The world x, where it is w but for what was made since; else w. -/
noncomputable def Over (w x : World) : World := if Below w.heap.size w x then x else w

theorem over_below (w x : World) : Below w.heap.size w (Over w x) := by
  unfold Over; split
  · assumption
  · exact Below.refl _ _
theorem over_of {w x : World} (h : Below w.heap.size w x) : x = Over w x := by unfold Over; rw [if_pos h]
@[go_sem] theorem over_cell (w x : World) (n i : Nat) (h : n < w.heap.size) : (Over w x).cell? ⟨n, i, none⟩ = w.cell? ⟨n, i, none⟩ := (over_below w x).cell (p := ⟨n, i, none⟩) h
@[go_sem] theorem over_frozen (w x : World) (n i : Nat) (h : n < w.heap.size) : (Over w x).frozen? ⟨n, i, none⟩ = w.frozen? ⟨n, i, none⟩ := (over_below w x).frozen (p := ⟨n, i, none⟩) h
theorem over_ex {w x : World} (h : Below w.heap.size w x) : ∃ y, x = Over w y := ⟨x, over_of h⟩
theorem over_size (w x : World) : w.heap.size ≤ (Over w x).heap.size := (over_below w x).size
theorem size_of {w x w' : World} (h : w' = Over w x) : w.heap.size ≤ w'.heap.size := by rw [h]; exact (over_below w x).size
noncomputable def overRest (w x : World) (n i : Nat) : Option Value := (Over w x).cell? ⟨n, i, none⟩
noncomputable def overRestF (w x : World) (n i : Nat) : Bool := (Over w x).frozen? ⟨n, i, none⟩
@[go_sem low] theorem over_cell_if (w x : World) (n i : Nat) : (Over w x).cell? ⟨n, i, none⟩ = if n < w.heap.size then w.cell? ⟨n, i, none⟩ else overRest w x n i := by
  split
  · exact over_cell w x n i ‹_›
  · rfl
@[go_sem low] theorem over_frozen_if (w x : World) (n i : Nat) : (Over w x).frozen? ⟨n, i, none⟩ = if n < w.heap.size then w.frozen? ⟨n, i, none⟩ else overRestF w x n i := by
  split
  · exact over_frozen w x n i ‹_›
  · rfl
@[go_sem low] theorem alloc_cell_if (w : World) (c : Array Value) (t : TypeId) (n i : Nat) : (w.alloc (.cells c t)).cell? ⟨n, i, none⟩ = if n = w.heap.size then c[i]? else w.cell? ⟨n, i, none⟩ := by
  split
  · exact World.cell?_alloc_at c t n i ‹_›
  · rcases Nat.lt_or_ge n w.heap.size with h | h
    · exact World.cell?_alloc_past _ n i h
    · have h1 : (w.heap.push (.cells c t))[n]? = none := Array.getElem?_eq_none (by simp; omega)
      have h2 : w.heap[n]? = none := Array.getElem?_eq_none h
      simp only [World.cell?]
      show (match (w.heap.push (.cells c t))[n]? with | some (.cells c _ _) => _ | _ => _) = _
      rw [h1, h2]
@[go_sem low] theorem alloc_frozen_if (w : World) (c : Array Value) (t : TypeId) (n i : Nat) : (w.alloc (.cells c t)).frozen? ⟨n, i, none⟩ = if n = w.heap.size then false else w.frozen? ⟨n, i, none⟩ := by
  split
  · exact World.frozen?_alloc_at c t n i ‹_›
  · rcases Nat.lt_or_ge n w.heap.size with h | h
    · exact World.frozen?_alloc_past _ n i h
    · have h1 : (w.heap.push (.cells c t))[n]? = none := Array.getElem?_eq_none (by simp; omega)
      have h2 : w.heap[n]? = none := Array.getElem?_eq_none h
      simp only [World.frozen?]
      show (match (w.heap.push (.cells c t))[n]? with | some (.cells _ _ (lo, hi)) => _ | _ => _) = _
      rw [h1, h2]
@[go_sem] theorem over_lt (w x : World) (n : Nat) (h : n < w.heap.size) : (n < (Over w x).heap.size) = True := by have := over_size w x; simp; omega
@[go_sem] theorem lt_0_2 (n : Nat) : (n < n + 1 + 1) = True := eq_true (by omega)
@[go_sem] theorem lt_1_2 (n : Nat) : (n + 1 < n + 1 + 1) = True := eq_true (by omega)
@[go_sem] theorem lt_0_3 (n : Nat) : (n < n + 1 + 1 + 1) = True := eq_true (by omega)
@[go_sem] theorem lt_1_3 (n : Nat) : (n + 1 < n + 1 + 1 + 1) = True := eq_true (by omega)
@[go_sem] theorem lt_2_3 (n : Nat) : (n + 1 + 1 < n + 1 + 1 + 1) = True := eq_true (by omega)
@[go_sem] theorem lt_0_4 (n : Nat) : (n < n + 1 + 1 + 1 + 1) = True := eq_true (by omega)
@[go_sem] theorem lt_1_4 (n : Nat) : (n + 1 < n + 1 + 1 + 1 + 1) = True := eq_true (by omega)
@[go_sem] theorem lt_2_4 (n : Nat) : (n + 1 + 1 < n + 1 + 1 + 1 + 1) = True := eq_true (by omega)
@[go_sem] theorem lt_3_4 (n : Nat) : (n + 1 + 1 + 1 < n + 1 + 1 + 1 + 1) = True := eq_true (by omega)
@[go_sem] theorem lt_0_5 (n : Nat) : (n < n + 1 + 1 + 1 + 1 + 1) = True := eq_true (by omega)
@[go_sem] theorem lt_1_5 (n : Nat) : (n + 1 < n + 1 + 1 + 1 + 1 + 1) = True := eq_true (by omega)
@[go_sem] theorem lt_2_5 (n : Nat) : (n + 1 + 1 < n + 1 + 1 + 1 + 1 + 1) = True := eq_true (by omega)
@[go_sem] theorem lt_3_5 (n : Nat) : (n + 1 + 1 + 1 < n + 1 + 1 + 1 + 1 + 1) = True := eq_true (by omega)
@[go_sem] theorem lt_4_5 (n : Nat) : (n + 1 + 1 + 1 + 1 < n + 1 + 1 + 1 + 1 + 1) = True := eq_true (by omega)
@[go_sem] theorem lt_0_6 (n : Nat) : (n < n + 1 + 1 + 1 + 1 + 1 + 1) = True := eq_true (by omega)
@[go_sem] theorem lt_1_6 (n : Nat) : (n + 1 < n + 1 + 1 + 1 + 1 + 1 + 1) = True := eq_true (by omega)
@[go_sem] theorem lt_2_6 (n : Nat) : (n + 1 + 1 < n + 1 + 1 + 1 + 1 + 1 + 1) = True := eq_true (by omega)
@[go_sem] theorem lt_3_6 (n : Nat) : (n + 1 + 1 + 1 < n + 1 + 1 + 1 + 1 + 1 + 1) = True := eq_true (by omega)
@[go_sem] theorem lt_4_6 (n : Nat) : (n + 1 + 1 + 1 + 1 < n + 1 + 1 + 1 + 1 + 1 + 1) = True := eq_true (by omega)
@[go_sem] theorem lt_5_6 (n : Nat) : (n + 1 + 1 + 1 + 1 + 1 < n + 1 + 1 + 1 + 1 + 1 + 1) = True := eq_true (by omega)
@[go_sem] theorem lt_0_7 (n : Nat) : (n < n + 1 + 1 + 1 + 1 + 1 + 1 + 1) = True := eq_true (by omega)
@[go_sem] theorem lt_1_7 (n : Nat) : (n + 1 < n + 1 + 1 + 1 + 1 + 1 + 1 + 1) = True := eq_true (by omega)
@[go_sem] theorem lt_2_7 (n : Nat) : (n + 1 + 1 < n + 1 + 1 + 1 + 1 + 1 + 1 + 1) = True := eq_true (by omega)
@[go_sem] theorem lt_3_7 (n : Nat) : (n + 1 + 1 + 1 < n + 1 + 1 + 1 + 1 + 1 + 1 + 1) = True := eq_true (by omega)
@[go_sem] theorem lt_4_7 (n : Nat) : (n + 1 + 1 + 1 + 1 < n + 1 + 1 + 1 + 1 + 1 + 1 + 1) = True := eq_true (by omega)
@[go_sem] theorem lt_5_7 (n : Nat) : (n + 1 + 1 + 1 + 1 + 1 < n + 1 + 1 + 1 + 1 + 1 + 1 + 1) = True := eq_true (by omega)
@[go_sem] theorem lt_6_7 (n : Nat) : (n + 1 + 1 + 1 + 1 + 1 + 1 < n + 1 + 1 + 1 + 1 + 1 + 1 + 1) = True := eq_true (by omega)
@[go_sem] theorem lt_0_8 (n : Nat) : (n < n + 1 + 1 + 1 + 1 + 1 + 1 + 1 + 1) = True := eq_true (by omega)
@[go_sem] theorem lt_1_8 (n : Nat) : (n + 1 < n + 1 + 1 + 1 + 1 + 1 + 1 + 1 + 1) = True := eq_true (by omega)
@[go_sem] theorem lt_2_8 (n : Nat) : (n + 1 + 1 < n + 1 + 1 + 1 + 1 + 1 + 1 + 1 + 1) = True := eq_true (by omega)
@[go_sem] theorem lt_3_8 (n : Nat) : (n + 1 + 1 + 1 < n + 1 + 1 + 1 + 1 + 1 + 1 + 1 + 1) = True := eq_true (by omega)
@[go_sem] theorem lt_4_8 (n : Nat) : (n + 1 + 1 + 1 + 1 < n + 1 + 1 + 1 + 1 + 1 + 1 + 1 + 1) = True := eq_true (by omega)
@[go_sem] theorem lt_5_8 (n : Nat) : (n + 1 + 1 + 1 + 1 + 1 < n + 1 + 1 + 1 + 1 + 1 + 1 + 1 + 1) = True := eq_true (by omega)
@[go_sem] theorem lt_6_8 (n : Nat) : (n + 1 + 1 + 1 + 1 + 1 + 1 < n + 1 + 1 + 1 + 1 + 1 + 1 + 1 + 1) = True := eq_true (by omega)
@[go_sem] theorem lt_7_8 (n : Nat) : (n + 1 + 1 + 1 + 1 + 1 + 1 + 1 < n + 1 + 1 + 1 + 1 + 1 + 1 + 1 + 1) = True := eq_true (by omega)
@[go_sem] theorem lt_add_t (n m k : Nat) (h : n < m) : (n < m + k) = True := by simp; omega
@[go_sem] theorem over_over_cell (w x y : World) (n i : Nat) (h : n < w.heap.size) : (Over (Over w x) y).cell? ⟨n, i, none⟩ = w.cell? ⟨n, i, none⟩ := by
  rw [over_cell _ _ _ _ (Nat.lt_of_lt_of_le h (over_size w x)), over_cell _ _ _ _ h]
@[go_sem] theorem over_over_frozen (w x y : World) (n i : Nat) (h : n < w.heap.size) : (Over (Over w x) y).frozen? ⟨n, i, none⟩ = w.frozen? ⟨n, i, none⟩ := by
  rw [over_frozen _ _ _ _ (Nat.lt_of_lt_of_le h (over_size w x)), over_frozen _ _ _ _ h]
@[go_sem] theorem over_over_lt (w x y : World) (n : Nat) (h : n < w.heap.size) : (n < (Over (Over w x) y).heap.size) = True := by have := over_size w x; have := over_size (Over w x) y; simp; omega
theorem over_le (w x : World) (n : Nat) (h : n ≤ w.heap.size) : n ≤ (Over w x).heap.size := by have := over_size w x; omega
theorem le_alloc {n : Nat} {w : World} (h : n ≤ w.heap.size) (o : Obj) : n ≤ (w.alloc o).heap.size := by simp; omega
theorem le_setCell {n : Nat} {w : World} (h : n ≤ w.heap.size) (p : Addr) (u : Value) : n ≤ (w.setCell p u).heap.size := by simpa [World.setCell] using h
theorem le_drew {n : Nat} {w : World} (h : n ≤ w.heap.size) : n ≤ w.drew.heap.size := h
theorem below_drewN_ {B : Nat} {a w : World} (h : Below B a w) (n : Nat) : Below B a (w.drewN n) := ⟨h.os, h.tape, h.output, h.size, h.block⟩
theorem le_drewN {k : Nat} {w : World} (h : k ≤ w.heap.size) (n : Nat) : k ≤ (w.drewN n).heap.size := h
theorem below_over {B : Nat} {a w : World} (h : Below B a w) (hB : B ≤ w.heap.size) (x : World) : Below B a (Over w x) := h.trans ((over_below w x).mono hB)

theorem below_of {w x w' : World} (h : w' = Over w x) : Below w.heap.size w w' := by rw [h]; exact over_below w x
theorem below_of_ex {w w' : World} (h : ∃ x, w' = Over w x) : Below w.heap.size w w' := let ⟨_, hx⟩ := h; below_of hx
theorem below_step {B : Nat} {a W w1 : World} (h : Below B a W) (hle : B ≤ W.heap.size) (hb : Below W.heap.size W w1) : Below B a w1 := h.trans (hb.mono hle)
theorem below_over_step {w x w1 : World} (h : Below (Over w x).heap.size (Over w x) w1) : Below w.heap.size w w1 := (over_below w x).trans (h.mono (over_size w x))
theorem wp_letter {c : Code} {P : Program} {Q : Exit → Act → World → Prop} {a : Act} {W : World} (h : ∀ w0, Below W.heap.size W w0 → c.wp P Q a w0) : c.wp P Q a W := h W (Below.refl _ _)

/-- What a contract of a function says that only makes memory: the value, and the world. -/
def Gives (v : Value) (w : World) (e : Ending) (w' : World) : Prop := e = .returned v ∧ ∃ x, w' = Over w x
theorem gives_of {v : Value} {w w' : World} {e : Ending} (he : e = .returned v) (h : Below w.heap.size w w') : Gives v w e w' := ⟨he, _, over_of h⟩
theorem Gives.below {v : Value} {w w' : World} {e : Ending} (h : Gives v w e w') : e = .returned v ∧ Below w.heap.size w w' := by
  obtain ⟨h1, x, rfl⟩ := h; exact ⟨h1, over_below w x⟩

section
variable {P : Program} {a : Act} {w : World} {Q : Exit → Act → World → Prop}
/-- A region that draws its order and whose operations read, or make memory by calls. -/
theorem wp_region_over {id : Nat} {l : List Oper} (hm : P.follows .mixedOrders = true) (hB : Region.lexB .any l.toArray = true)
    (h : wpQuiet P l.toArray (fun w' => ∃ x, w' = Over w x) (fun a' => ∀ w', (∃ x, w' = Over w x) → Q .normal a' w') l a) : (Code.region id l.toArray true).wp P Q a w :=
  wp_region_quiet (C := fun w' => ∃ x, w' = Over w x) hm hB ⟨_, over_of ⟨rfl, rfl, rfl, Nat.le_refl _, fun _ _ => rfl⟩⟩ (by simpa using h)
theorem over_over (w x y : World) : ∃ z, Over (Over w x) y = Over w z :=
  ⟨_, over_of ((over_below w x).trans ((over_below (Over w x) y).mono (over_size w x)))⟩
theorem quiet_gives {f : FuncId} {args : Array Value} {x : World} {v : Value} (h : Calls P f args (Over w x) (Gives v (Over w x))) :
    Calls P f args (Over w x) fun e w'' => e = .returned v ∧ ∃ m, w'' = Over w m :=
  h.mono fun _ _ ⟨he, y, hy⟩ => ⟨he, by rw [hy]; exact over_over w x y⟩
theorem quiet_same {f : FuncId} {args : Array Value} {x : World} {v : Value} (h : Calls P f args (Over w x) fun e w' => e = .returned v ∧ Over w x = w') :
    Calls P f args (Over w x) fun e w'' => e = .returned v ∧ ∃ m, w'' = Over w m :=
  h.mono fun _ _ ⟨he, hy⟩ => ⟨he, x, hy.symm⟩
end

theorem quietN_same {P : Program} {f : FuncId} {args : Array Value} {w : World} {n : Nat} {v : Value} (h : Calls P f args (w.drewN n) fun e w' => e = .returned v ∧ w.drewN n = w') :
    Calls P f args (w.drewN n) fun e w'' => e = .returned v ∧ ∃ m, w'' = w.drewN m := h.mono fun _ _ ⟨he, hm⟩ => ⟨he, n, hm.symm⟩

/-! A slice's header; what it reads as. -/
structure Sl where
  a : Option Addr
  n : Nat
  c : Nat
abbrev Sl.val (s : Sl) : Value := .slice s.a s.n s.c

theorem block_of_add (a : Addr) (n : Nat) : (a.add n).block = a.block := by unfold Addr.add; split <;> rfl
theorem add_of_add (a : Addr) (i j : Nat) : (a.add i).add j = a.add (i + j) := by
  unfold Addr.add
  by_cases hi : i = 0 <;> by_cases hj : j = 0 <;> simp [hi, hj, Nat.add_assoc]

/-- Slice s holds the elements xs, each laid out by enc. -/
structure Rd {α : Type} (w : World) (enc : α → List Value) (s : Sl) (xs : List α) : Prop where
  len : xs.length = s.n
  cap : s.n ≤ s.c
  max : s.c ≤ maxLen
  cells : 0 < s.n → ∃ b off, s.a = some ⟨b, off, none⟩ ∧ b < w.heap.size ∧ ∀ k x, xs[k]? = some x → ∀ j u, (enc x)[j]? = some u → w.cell? ⟨b, off + (k * (enc x).length + j), none⟩ = some u

section
variable {α : Type} {w w' : World} {enc : α → List Value} {s : Sl} {xs : List α}
theorem Rd.bound (h : Rd w enc s xs) : s.n ≤ 9223372036854775807 := by have h1 := h.max; have h2 := h.cap; unfold maxLen at h1; omega
theorem Rd.step (h : Rd w enc s xs) {k : Nat} (hk : k < s.n) : ∃ b off x, s.a = some ⟨b, off, none⟩ ∧ b < w.heap.size ∧ Hid (xs.drop k = x :: xs.drop (k + 1)) ∧ Hid (xs[k]? = some x) ∧
    ∀ j u, (enc x)[j]? = some u → w.cell? ⟨b, off + (k * (enc x).length + j), none⟩ = some u := by
  obtain ⟨b, off, e, hb, hc⟩ := h.cells (by omega)
  have hl := h.len
  have hx : xs[k]? = some xs[k] := List.getElem?_eq_getElem (show k < xs.length by omega)
  exact ⟨b, off, xs[k], e, hb, List.drop_eq_getElem_cons (by omega), hx, hc k _ hx⟩
theorem Rd.done_ (h : Rd w enc s xs) {k : Nat} (hk : ¬ k < s.n) : xs.drop k = [] := List.drop_eq_nil_of_le (by have := h.len; omega)
theorem Rd.toW (h : Rd w enc s xs) (hb : Below w.heap.size w w') : Rd w' enc s xs :=
  ⟨h.len, h.cap, h.max, fun hn => by
    obtain ⟨b, off, e, hlt, hc⟩ := h.cells hn
    exact ⟨b, off, e, Nat.lt_of_lt_of_le hlt hb.size, fun k x hx j u hu => (hb.cell (p := ⟨b, _, none⟩) hlt).trans (hc k x hx j u hu)⟩⟩
theorem Rd.nil_ (w : World) (enc : α → List Value) : Rd w enc ⟨none, 0, 0⟩ [] := ⟨rfl, Nat.le_refl _, Nat.zero_le _, fun h => absurd h (by simp)⟩
end
/-! Lists of numbers. -/
abbrev encI (x : Int) : List Value := [.int .i64 x]
theorem Rd.int {w : World} {s : Sl} {xs : List Int} (h : Rd w encI s xs) {k : Nat} (hk : k < s.n) : ∃ b off x, s.a = some ⟨b, off, none⟩ ∧ b < w.heap.size ∧ Hid (xs.drop k = x :: xs.drop (k + 1)) ∧ Hid (xs[k]? = some x) ∧
    w.cell? ⟨b, off + k, none⟩ = some (.int .i64 x) := by
  obtain ⟨b, off, x, e, hb, h1, h2, hc⟩ := h.step hk
  exact ⟨b, off, x, e, hb, h1, h2, by simpa using hc 0 _ rfl⟩
end Go.Proofs.Ytoafgpeghokhgaa
