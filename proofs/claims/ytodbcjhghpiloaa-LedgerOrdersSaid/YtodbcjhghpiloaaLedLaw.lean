/- Ledger: the plain laws: a posting changes two balances; all balances together are 0. -/
import Derived.Test.YtodbcjhghpiloaaLedGood
namespace Go.Proofs.Ytodbcjhghpiloaa
set_option linter.unusedSimpArgs false
set_option linter.unusedVariables false
open Go.RowKit
def balP (a : Int) (xs : List PV) : Int := inP a xs - outP a xs
theorem inP_append (a : Int) : ∀ xs ys : List PV, inP a (xs ++ ys) = inP a xs + inP a ys
  | [], ys => by simp [inP]
  | x :: r, ys => by
    have ih := inP_append a r ys
    show (if x.to_ = a then x.amount else 0) + inP a (r ++ ys) = (if x.to_ = a then x.amount else 0) + inP a r + inP a ys
    omega
theorem outP_append (a : Int) : ∀ xs ys : List PV, outP a (xs ++ ys) = outP a xs + outP a ys
  | [], ys => by simp [outP]
  | x :: r, ys => by
    have ih := outP_append a r ys
    show (if x.from_ = a then x.amount else 0) + outP a (r ++ ys) = (if x.from_ = a then x.amount else 0) + outP a r + outP a ys
    omega
theorem bal_from {xs : List PV} {p : PV} (h : ¬ p.from_ = p.to_) : balP p.from_ (xs ++ [p]) = balP p.from_ xs - p.amount := by
  have h' : ¬ p.to_ = p.from_ := fun e => h e.symm
  unfold balP
  rw [inP_append, outP_append]
  simp only [inP, outP]
  rw [if_neg h']
  simp
  omega
theorem bal_to {xs : List PV} {p : PV} (h : ¬ p.from_ = p.to_) : balP p.to_ (xs ++ [p]) = balP p.to_ xs + p.amount := by
  unfold balP
  rw [inP_append, outP_append]
  simp only [inP, outP]
  rw [if_neg h]
  simp
  omega
theorem bal_other {xs : List PV} {p : PV} {a : Int} (h1 : ¬ p.from_ = a) (h2 : ¬ p.to_ = a) : balP a (xs ++ [p]) = balP a xs := by
  unfold balP
  rw [inP_append, outP_append]
  simp only [inP, outP]
  rw [if_neg h1, if_neg h2]
  simp
theorem bal_bd {a : Int} {xs : List PV} (hg : goodP xs) (hn : xs.length ≤ 4000) : -4398046511104000 ≤ balP a xs ∧ balP a xs ≤ 4398046511104000 := by
  have h1 := inP_bd a hg
  have h2 := outP_bd a hg
  unfold balP
  omega
/-- The sum of the balances of accounts. -/
def sumB (xs : List PV) : List Int → Int
  | [] => 0
  | a :: r => balP a xs + sumB xs r
def one (t : Int) (v : Int) : List Int → Int
  | [] => 0
  | a :: r => (if t = a then v else 0) + one t v r
theorem one_not (t v : Int) : ∀ {l : List Int}, ¬ t ∈ l → one t v l = 0
  | [], _ => rfl
  | a :: r, h => by
    have ih := one_not t v (l := r) (fun e => h (List.mem_cons_of_mem _ e))
    unfold one
    rw [ih, if_neg (fun e => h (by rw [e]; exact List.mem_cons_self ..))]
    rfl
theorem one_is (t v : Int) : ∀ {l : List Int}, l.Nodup → t ∈ l → one t v l = v
  | [], _, h => by cases h
  | a :: r, hn, h => by
    obtain ⟨h1, h2⟩ := List.nodup_cons.1 hn
    unfold one
    by_cases e : t = a
    · subst e
      rw [if_pos rfl, one_not t v h1]; omega
    · rw [if_neg e, one_is t v h2 (by rcases List.mem_cons.1 h with h | h; (· exact absurd h e); exact h)]; omega
theorem sumB_cons (x : PV) (r : List PV) : ∀ l : List Int, sumB (x :: r) l = one x.to_ x.amount l - one x.from_ x.amount l + sumB r l
  | [] => by simp [sumB, one]
  | a :: l => by
    have ih := sumB_cons x r l
    show balP a (x :: r) + sumB (x :: r) l = (if x.to_ = a then x.amount else 0) + one x.to_ x.amount l - ((if x.from_ = a then x.amount else 0) + one x.from_ x.amount l) + (balP a r + sumB r l)
    have hb : balP a (x :: r) = (if x.to_ = a then x.amount else 0) - (if x.from_ = a then x.amount else 0) + balP a r := by
      show ((if x.to_ = a then x.amount else 0) + inP a r) - ((if x.from_ = a then x.amount else 0) + outP a r) = _
      unfold balP
      omega
    rw [hb, ih]
    omega
theorem sumB_nil : ∀ l : List Int, sumB [] l = 0
  | [] => rfl
  | a :: l => by
    have ih := sumB_nil l
    show balP a [] + sumB [] l = 0
    rw [ih]; rfl
theorem sumB_zero {l : List Int} (hl : l.Nodup) : ∀ {xs : List PV}, (∀ x ∈ xs, x.from_ ∈ l ∧ x.to_ ∈ l) → sumB xs l = 0
  | [], _ => sumB_nil l
  | x :: r, h => by
    have ih := sumB_zero hl (xs := r) (fun y hy => h y (List.mem_cons_of_mem _ hy))
    obtain ⟨h1, h2⟩ := h x (List.mem_cons_self ..)
    rw [sumB_cons, ih, one_is _ _ hl h2, one_is _ _ hl h1]
    omega
theorem inc_nodup {l : List Int} (h : Inc l) : l.Nodup := h.imp (fun {a b} hab e => by omega)
theorem acc_zero (xs : List PV) : sumB xs (accP xs) = 0 :=
  sumB_zero (inc_nodup (accP_inc xs)) (fun x hx => ⟨(accP_mem xs _).2 (List.mem_flatMap.2 ⟨x, hx, by simp⟩), (accP_mem xs _).2 (List.mem_flatMap.2 ⟨x, hx, by simp⟩)⟩)
theorem acc_two {xs : List PV} {x : PV} (hx : x ∈ xs) (h : ¬ x.from_ = x.to_) : 2 ≤ (accP xs).length := by
  have h1 : x.from_ ∈ accP xs := (accP_mem xs _).2 (List.mem_flatMap.2 ⟨x, hx, by simp⟩)
  have h2 : x.to_ ∈ accP xs := (accP_mem xs _).2 (List.mem_flatMap.2 ⟨x, hx, by simp⟩)
  exact nodup_len (l := [x.from_, x.to_]) (by simp [h]) (fun y hy => by
    simp only [List.mem_cons, List.not_mem_nil, or_false] at hy
    rcases hy with rfl | rfl
    · exact h1
    · exact h2)
theorem acc_len (xs : List PV) : (accP xs).length ≤ 2 * xs.length := by
  rw [← keysP_len]
  exact nodup_len (inc_nodup (accP_inc xs)) (fun y hy => (accP_mem xs y).1 hy)
end Go.Proofs.Ytodbcjhghpiloaa
