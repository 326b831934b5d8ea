/- Rows of the call's own: small laws; lists of numbers. -/
import Derived.Test.YtoafgpeghokhgaaChecked
import Derived.Test.YtoafgpeghokhgaaApp
namespace Go.Proofs.Ytoafgpeghokhgaa
set_option linter.unusedSimpArgs false
set_option linter.unusedVariables false
open Go.RowKit
theorem i64_wf {n : Int} (h0 : -9223372036854775808 ≤ n) (h1 : n ≤ 9223372036854775807) : (Lit.int .i64 n).wf = true := by
  have a : IntKind.i64.min = -9223372036854775808 := by decide
  have b : IntKind.i64.max = 9223372036854775807 := by decide
  simp only [Lit.wf, a, b, Bool.and_eq_true, decide_eq_true_eq]
  exact ⟨h0, h1⟩
theorem below_grown {w w' : World} (h : w.grownBy w' none) : Below w.heap.size w w' := ⟨h.os, h.tape, h.output, h.size, fun k hk => h.block k hk (by simp)⟩
theorem Own.alloc' {α : Type} {enc : α → List Value} {w : World} {base : Nat} {e : TypeId} {size : Nat} {s : Sl} {xs : List α} (h : Own w base e size enc s xs) (o : Obj) : Own (w.alloc o) base e size enc s xs :=
  h.same (fun g hg => by rw [alloc_block_if, if_neg (by have := (h.block g hg).2; omega)])
theorem Own.toW {α : Type} {enc : α → List Value} {w w' : World} {base : Nat} {e : TypeId} {size : Nat} {s : Sl} {xs : List α} (h : Own w base e size enc s xs) (hb : Below w.heap.size w w') : Own w' base e size enc s xs :=
  h.same (fun g hg => hb.block g (h.block g hg).2)
theorem Own.put {α : Type} {enc : α → List Value} {w : World} {base : Nat} {e : TypeId} {size : Nat} {s : Sl} {xs : List α} (h : Own w base e size enc s xs) {b : Nat} {o : Obj} (hb : b < w.heap.size) (hne : ∀ g, s.val.ownBlock = some g → g ≠ b) : Own (Put w b o) base e size enc s xs :=
  h.same (fun g hg => by rw [put_block_if _ _ _ _ hb, if_neg (hne g hg)])
theorem Own.base {α : Type} {enc : α → List Value} {w : World} {base b' : Nat} {e : TypeId} {size : Nat} {s : Sl} {xs : List α} (h : Own w base e size enc s xs) (hb : b' ≤ base) : Own w b' e size enc s xs := by
  refine ⟨h.len, h.row.1, ?_⟩
  rcases h.row.2 with h2 | ⟨g, cap, cur, hv, h3, h4⟩
  · exact .inl h2
  · exact .inr ⟨g, cap, cur, hv, Nat.le_trans hb h3, h4⟩
theorem own_empty {α : Type} {enc : α → List Value} (w : World) (e : TypeId) (size : Nat) : Own (w.alloc (.cells #[] e)) w.heap.size e size enc ⟨some ⟨w.heap.size, 0, none⟩, 0, 0⟩ ([] : List α) :=
  ⟨rfl, by simp, .inr ⟨w.heap.size, 0, #[], rfl, Nat.le_refl _, by rw [alloc_block_if, if_pos rfl], Nat.le_refl _, Nat.zero_le _, by simp, by simp⟩⟩
theorem rd_lit {α : Type} {w : World} {enc : α → List Value} (size : Nat) (hsz : ∀ x, (enc x).length = size) {b t n : Nat} {cs : Array Value} {fr : Nat × Nat} (xs : List α) (hb : w.heap[b]? = some (.cells cs t fr)) (hc : cs.toList = xs.flatMap enc) (hn : n = xs.length) (hm : xs.length ≤ maxLen) :
    Rd w enc ⟨some ⟨b, 0, none⟩, n, n⟩ xs := by
  subst hn
  exact rd_block hsz hb (fun i u h => by rw [← hc] at h; simpa using h) hm
theorem rd_take {α : Type} {w : World} {enc : α → List Value} {A : Option Addr} {n c : Nat} {xs : List α} (h : Rd w enc ⟨A, n, c⟩ xs) {k : Nat} (hk : k ≤ n) : Rd w enc ⟨A, k, c⟩ (xs.take k) := by
  have hl : xs.length = n := h.len
  have hc : n ≤ c := h.cap
  refine ⟨by simp only [List.length_take]; omega, by simp only; omega, h.max, fun hn => ?_⟩
  obtain ⟨b, off, e, hb, hcell⟩ := h.cells (by simp only at hn ⊢; omega)
  refine ⟨b, off, e, hb, fun i x hx j u hu => hcell i x ?_ j u hu⟩
  rw [List.getElem?_take] at hx
  split at hx
  · exact hx
  · cases hx
theorem rd_drop {α : Type} {w : World} {enc : α → List Value} {b off n c q size : Nat} {xs : List α} (h : Rd w enc ⟨some ⟨b, off, none⟩, n, c⟩ xs) (hq : q ≤ n) (hs : ∀ x, (enc x).length = size) :
    Rd w enc ⟨if c = q then some ⟨b, off, none⟩ else some ⟨b, off + q * size, none⟩, n - q, c - q⟩ (xs.drop q) := by
  have h1 : xs.length = n := h.len
  have h2 : n ≤ c := h.cap
  have h3 : c ≤ maxLen := h.max
  refine ⟨by rw [List.length_drop, h1], by dsimp only; omega, by dsimp only; omega, fun hn => ?_⟩
  dsimp only at hn
  obtain ⟨b', off', e, hb, hc⟩ := h.cells (show 0 < n by omega)
  cases e
  refine ⟨b, off + q * size, if_neg (by omega), hb, fun k x hx j u hu => ?_⟩
  rw [List.getElem?_drop] at hx
  have := hc (q + k) x hx j u hu
  rw [hs] at this ⊢
  rw [Nat.add_mul] at this
  have e : off + (q * size + k * size + j) = off + q * size + (k * size + j) := by omega
  rw [e] at this
  exact this
theorem info_int : (Try.prog.info? 3).map (fun i => (i.zero, i.size, i.bytes)) = some (some (.int .i64 0), 1, 8) := by kernel_rfl
theorem one_int (h : Int) : ∀ u ∈ encI h, u.oneCell' = true := by intro u hu; simp [encI] at hu; subst hu; rfl
abbrev OwnI (w : World) (base : Nat) (s : Sl) (xs : List Int) : Prop := Own w base 3 1 encI s xs
def OwnIPost (xs : List Int) (w : World) (e : Ending) (w' : World) : Prop := ∃ v : Sl, e = .returned v.val ∧ Below w.heap.size w w' ∧ OwnI w' w.heap.size v xs
abbrev Inc (l : List Int) : Prop := l.Pairwise (fun a b => a < b)
theorem inc_nodup {l : List Int} (h : Inc l) : l.Nodup := h.imp (fun {a b} hab e => by omega)
abbrev sortI (l : List Int) : List Int := l.mergeSort fun x y => decide (x ≤ y)
theorem sort_inc {l m : List Int} (hl : l.Nodup) (hm : Inc m) (h : ∀ y, y ∈ l ↔ y ∈ m) : sortI l = m := by
  have hmn : m.Nodup := hm.imp (fun {a b} hab e => by omega)
  have hp : l.Perm m := (List.perm_ext_iff_of_nodup hl hmn).2 h
  have tr : ∀ a b c : Int, decide (a ≤ b) = true → decide (b ≤ c) = true → decide (a ≤ c) = true := fun a b c h1 h2 => by simp at *; omega
  have tot : ∀ a b : Int, (decide (a ≤ b) || decide (b ≤ a)) = true := fun a b => by simp; omega
  refine List.Perm.eq_of_pairwise (le := fun a b => decide (a ≤ b) = true) (fun a b _ _ h1 h2 => ?_) (List.pairwise_mergeSort tr tot l) (hm.imp (fun {a b} hab => by simp; omega)) ((List.mergeSort_perm l _).trans hp)
  simp at h1 h2; omega
theorem nodup_len {l : List Int} : ∀ {m : List Int}, l.Nodup → (∀ x ∈ l, x ∈ m) → l.length ≤ m.length := by
  induction l with
  | nil => intro m _ _; exact Nat.zero_le _
  | cons a r ih =>
    intro m hn hs
    obtain ⟨h1, h2⟩ := List.nodup_cons.1 hn
    have ha := hs a (List.mem_cons_self ..)
    have h3 := ih (m := m.erase a) h2 (fun x hx => (List.mem_erase_of_ne (fun e => h1 (by rw [← e]; exact hx))).2 (hs x (List.mem_cons_of_mem _ hx)))
    have h4 := List.length_erase_of_mem ha
    have h5 := List.length_pos_of_mem ha
    simp only [List.length_cons]
    omega
theorem flatI : ∀ xs : List Int, xs.flatMap encI = xs.map (Value.int .i64)
  | [] => rfl
  | x :: r => by rw [List.flatMap_cons, flatI r]; rfl
end Go.Proofs.Ytoafgpeghokhgaa
