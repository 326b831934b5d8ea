/- Revisions: the plain law: what Change, Diff and Apply give. No program in sight. -/
import Derived.Test.YtfajjgkhanjcfaaGreatRevR
import Derived.Test.YtfajjgkhanjcfaaGreatRevW
namespace Go.Proofs.YtfajjgkhanjcfaaGreat
set_option linter.unusedSimpArgs false
set_option linter.unusedVariables false
open Go.RowKit
theorem mem_minus {xs ys : List Int} {y : Int} : y ∈ minusL xs ys ↔ y ∈ xs ∧ y ∉ ys := by simp [minusL, List.mem_filter]
theorem mem_wo {xs ys : List Int} {y : Int} : y ∈ woF xs ys ↔ y ∈ xs ∧ y ∉ ys := by rw [woF, mem_setI, mem_minus]
theorem wo_wf {xs ys : List Int} (h : WfI xs) : WfI (woF xs ys) := fun x hx => h x (mem_wo.1 hx).1
theorem setI_snoc (l : List Int) (x : Int) : setI (l ++ [x]) = putI (setI l) x := by unfold setI; rw [List.foldl_append]; rfl
/-- The numbers of both lists. -/
def wiF (xs ys : List Int) : List Int := setI (xs ++ ys)
theorem mem_wi {xs ys : List Int} {y : Int} : y ∈ wiF xs ys ↔ y ∈ xs ∨ y ∈ ys := by rw [wiF, mem_setI, List.mem_append]
theorem wi_wf {xs ys : List Int} (h : WfI xs) (h' : WfI ys) : WfI (wiF xs ys) := fun x hx => (mem_wi.1 hx).elim (h x) (h' x)
theorem app_wf {xs ys : List Int} (h : WfI xs) (h' : WfI ys) : WfI (xs ++ ys) := fun x hx => (List.mem_append.1 hx).elim (h x) (h' x)
theorem serL_iff : ∀ {l : List Int}, serL l = true ↔ ∀ x ∈ l, serB x = true
  | [] => by simp [serL]
  | x :: r => by
    unfold serL
    cases h : serB x
    · simp [h]
    · rw [if_neg (by simp), serL_iff]; simp [h]
theorem serL_app {a b : List Int} : serL (wiF a b) = (serL a && serL b) := by
  rw [Bool.eq_iff_iff, Bool.and_eq_true, serL_iff, serL_iff, serL_iff]
  constructor
  · exact fun h => ⟨fun x hx => h x (mem_wi.2 (.inl hx)), fun x hx => h x (mem_wi.2 (.inr hx))⟩
  · rintro ⟨h1, h2⟩ x hx
    exact (mem_wi.1 hx).elim (h1 x) (h2 x)
theorem ordA_iff : ∀ {l : List Int}, ordA l = true ↔ Inc l
  | [] => by simp [ordA]
  | [x] => by simp [ordA]
  | x :: y :: r => by
    unfold ordA
    by_cases h : y ≤ x
    · rw [if_pos h]
      constructor
      · intro h; cases h
      · intro hp
        have := (List.pairwise_cons.1 hp).1 y (List.mem_cons_self ..)
        omega
    · rw [if_neg h, ordA_iff]
      constructor
      · intro hp
        refine List.pairwise_cons.2 ⟨fun z hz => ?_, hp⟩
        rcases List.mem_cons.1 hz with rfl | hz
        · omega
        · have := (List.pairwise_cons.1 hp).1 z hz; omega
      · exact fun hp => (List.pairwise_cons.1 hp).2
/-- The list of a change. -/
def chL (l add drop : List Int) : List Int := woF (l ++ add) (woF drop add)
theorem mem_ch {l add drop : List Int} {y : Int} : y ∈ chL l add drop ↔ y ∈ add ∨ (y ∈ l ∧ y ∉ drop) := by
  rw [chL, mem_wo, mem_wo, List.mem_append]
  constructor
  · rintro ⟨h1 | h1, h2⟩
    · by_cases ha : y ∈ add
      · exact .inl ha
      · exact .inr ⟨h1, fun hd => h2 ⟨hd, ha⟩⟩
    · exact .inl h1
  · rintro (h | ⟨h1, h2⟩)
    · exact ⟨.inr h, fun h2 => h2.2 h⟩
    · exact ⟨.inl h1, fun h3 => h2 h3.1⟩
theorem ch_ref (l add drop : List Int) : wiF (woF l drop) add = chL l add drop := by
  refine inc_ext (inc_setI _) (inc_setI _) (fun y => ?_)
  show y ∈ wiF _ _ ↔ y ∈ chL _ _ _
  rw [mem_wi, mem_wo, mem_ch]
  exact Or.comm
structure R3 where
  version : Int
  list : List Int
  err : Int
/-- What Change gives. -/
def chF (v : Int) (l add drop : List Int) : R3 :=
  if (serL add && serL drop) = false then ⟨0, [], 2⟩
  else if (chL l add drop == l) = true then ⟨v, l, 0⟩
  else if 1000000 ≤ v then ⟨0, [], 12⟩
  else if 200 < (chL l add drop).length then ⟨0, [], 9⟩
  else ⟨v + 1, chL l add drop, 0⟩
/-- A revision: what it says. -/
structure D4 where
  from_ : Int
  till : Int
  add : List Int
  drop : List Int
def diffF (v : Int) (a : List Int) (u : Int) (b : List Int) : D4 := ⟨v, u, woF b a, woF a b⟩
/-- The list after a revision. -/
def apL (l add drop : List Int) : List Int := woF (l ++ add) drop
theorem ap_ref (l add drop : List Int) : woF (wiF l add) drop = apL l add drop := by
  refine inc_ext (inc_setI _) (inc_setI _) (fun y => ?_)
  show y ∈ woF _ _ ↔ y ∈ apL _ _ _
  rw [mem_wo, mem_wi, apL, mem_wo, List.mem_append]
abbrev rightL (v : Int) (l : List Int) : Int := right27 ⟨v, ⟨none, 0, 0⟩, l⟩
def anyIn (l : List Int) : List Int → Bool
  | [] => false
  | x :: r => if decide (x ∈ l) = true then true else anyIn l r
theorem anyIn_iff {l : List Int} : ∀ {xs : List Int}, anyIn l xs = true ↔ ∃ x ∈ xs, x ∈ l
  | [] => by simp [anyIn]
  | x :: r => by
    unfold anyIn
    by_cases h : x ∈ l
    · simp [h]
    · rw [if_neg (by simpa using h), anyIn_iff]; simp [h]
def allIn (l : List Int) : List Int → Bool
  | [] => true
  | x :: r => if decide (x ∈ l) = false then false else allIn l r
theorem allIn_iff {l : List Int} : ∀ {xs : List Int}, allIn l xs = true ↔ ∀ x ∈ xs, x ∈ l
  | [] => by simp [allIn]
  | x :: r => by
    unfold allIn
    by_cases h : x ∈ l
    · rw [if_neg (by simpa using h), allIn_iff]; simp [h]
    · rw [if_pos (by simpa using h)]; simp [h]
theorem wo_none {l xs : List Int} : decide (0 < (woF xs l).length) = !allIn l xs := by
  rw [Bool.eq_iff_iff, decide_eq_true_eq, Bool.not_eq_true', ← Bool.not_eq_true, allIn_iff, List.length_pos_iff_exists_mem]
  constructor
  · rintro ⟨y, hy⟩ h
    exact (mem_wo.1 hy).2 (h y (mem_wo.1 hy).1)
  · intro h
    apply Classical.byContradiction
    intro hn
    exact h (fun x hx => Classical.byContradiction fun hl => hn ⟨x, mem_wo.2 ⟨hx, hl⟩⟩)
/-- What Apply gives. -/
def apF (v : Int) (l : List Int) (d : D4) : R3 :=
  if (d.from_ == v) = false then ⟨0, [], 14⟩
  else if d.till < d.from_ then ⟨0, [], 11⟩
  else if anyIn l d.add = true then ⟨0, [], 7⟩
  else if allIn l d.drop = false then ⟨0, [], 8⟩
  else if (rightL d.till (apL l d.add d.drop) == 0) = false then ⟨0, [], rightL d.till (apL l d.add d.drop)⟩
  else ⟨d.till, apL l d.add d.drop, 0⟩
theorem right_facts {v : Int} {l : List Int} (h : rightL v l = 0) : (0 ≤ v ∧ v ≤ 1000000) ∧ l.length ≤ 200 ∧ serL l = true ∧ Inc l := by
  unfold rightL right27 at h
  dsimp only at h
  by_cases h1 : v < 0 ∨ 1000000 < v
  · rw [if_pos h1] at h; omega
  rw [if_neg h1] at h
  by_cases h2 : 200 < l.length
  · rw [if_pos h2] at h; omega
  rw [if_neg h2] at h
  by_cases h3 : serL l = false
  · rw [if_pos h3] at h; omega
  rw [if_neg h3] at h
  by_cases h4 : ordA l = false
  · rw [if_pos h4] at h; omega
  exact ⟨by omega, by omega, by simpa using h3, ordA_iff.1 (by simpa using h4)⟩
theorem right_of {v : Int} {l : List Int} (h1 : 0 ≤ v) (h2 : v ≤ 1000000) (h3 : l.length ≤ 200) (h4 : serL l = true) (h5 : Inc l) : rightL v l = 0 := by
  unfold rightL right27
  dsimp only
  rw [if_neg (by omega), if_neg (by omega), if_neg (by rw [h4]; simp), if_neg (by rw [ordA_iff.2 h5]; simp)]
theorem ser_wf {l : List Int} (h : serL l = true) : WfI l := fun x hx => by
  have := serL_iff.1 h x hx
  simp [serB] at this
  exact i64_wf (by omega) (by omega)
/-- What Change gives is right again. -/
theorem ch_right {v : Int} {l add drop : List Int} (h : rightL v l = 0) (he : (chF v l add drop).err = 0) : rightL (chF v l add drop).version (chF v l add drop).list = 0 ∧ v ≤ (chF v l add drop).version ∧ (chF v l add drop).version ≤ v + 1 ∧ (chF v l add drop).list = chL l add drop ∧ (serL add && serL drop) = true ∧ ((chL l add drop == l) = true ∧ (chF v l add drop).version = v ∨ (chL l add drop == l) = false ∧ (chF v l add drop).version = v + 1) := by
  obtain ⟨⟨a1, a2⟩, a3, a4, a5⟩ := right_facts h
  unfold chF at he ⊢
  by_cases h1 : (serL add && serL drop) = false
  · rw [if_pos h1] at he; cases he
  rw [if_neg h1] at he ⊢
  by_cases h2 : (chL l add drop == l) = true
  · rw [if_pos h2] at he ⊢
    exact ⟨h, Int.le_refl _, by dsimp only; omega, (by simpa using h2 : chL l add drop = l).symm, by simpa using h1, .inl ⟨h2, rfl⟩⟩
  rw [if_neg h2] at he ⊢
  by_cases h3 : 1000000 ≤ v
  · rw [if_pos h3] at he; cases he
  rw [if_neg h3] at he ⊢
  by_cases h4 : 200 < (chL l add drop).length
  · rw [if_pos h4] at he; cases he
  rw [if_neg h4] at he ⊢
  have h1' : serL add = true ∧ serL drop = true := by simpa using h1
  refine ⟨right_of (by dsimp only; omega) (by dsimp only; omega) (by dsimp only; omega) ?_ (inc_setI _), by dsimp only; omega, by dsimp only; omega, rfl, by simpa using h1, .inr ⟨by simpa using h2, rfl⟩⟩
  refine serL_iff.2 (fun x hx => ?_)
  rcases mem_ch.1 hx with hx | hx
  · exact serL_iff.1 h1'.1 x hx
  · exact serL_iff.1 a4 x hx.1
/-- A revision leads from one version to the other one. -/
theorem ap_diff {v u : Int} {a b : List Int} (ha : rightL v a = 0) (hb : rightL u b = 0) : apF v a (diffF v a u b) = if u < v then ⟨0, [], 11⟩ else ⟨u, b, 0⟩ := by
  obtain ⟨-, -, -, ia⟩ := right_facts ha
  obtain ⟨-, -, -, ib⟩ := right_facts hb
  unfold apF diffF
  dsimp only
  rw [if_neg (by simp)]
  by_cases h : u < v
  · rw [if_pos h, if_pos h]
  · rw [if_neg h, if_neg h]
    have e : apL a (woF b a) (woF a b) = b := by
      refine inc_ext (inc_setI _) ib (fun y => ?_)
      show y ∈ woF _ _ ↔ _
      rw [mem_wo, List.mem_append, mem_wo, mem_wo]
      by_cases h1 : y ∈ a <;> by_cases h2 : y ∈ b <;> simp [h1, h2]
    rw [if_neg, if_neg, e, if_neg (by rw [hb]; simp)]
    · rw [Bool.not_eq_false, allIn_iff]
      exact fun x hx => (mem_wo.1 hx).1
    · rw [anyIn_iff]
      rintro ⟨x, hx, hx2⟩
      exact (mem_wo.1 hx).2 hx2
theorem wo_self (a : List Int) : woF a a = [] := by
  refine inc_ext (inc_setI _) List.Pairwise.nil (fun y => ?_)
  show y ∈ woF _ _ ↔ _
  rw [mem_wo]
  constructor
  · rintro ⟨h1, h2⟩; exact absurd h1 h2
  · intro h; cases h
end Go.Proofs.YtfajjgkhanjcfaaGreat
