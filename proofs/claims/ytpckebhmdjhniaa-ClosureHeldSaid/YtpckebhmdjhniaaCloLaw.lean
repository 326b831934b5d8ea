/- Closures: the plain laws. -/
import Derived.Test.YtpckebhmdjhniaaCloM
namespace Go.Proofs.Ytpckebhmdjhniaa
set_option linter.unusedSimpArgs false
set_option linter.unusedVariables false
open Go.RowKit
theorem place_iff {q : KV} : ∀ {xs : List CV} {k : Int}, 0 ≤ k → (0 ≤ placeF q xs k ↔ ∃ c ∈ xs, c.key = q)
  | [], k, hk => by simp [placeF]
  | c :: r, k, hk => by
    have ih := place_iff (q := q) (xs := r) (k := k + 1) (by omega)
    unfold placeF
    by_cases h : c.key = q
    · rw [if_pos h]; simp [h, hk]
    · rw [if_neg h, ih]; simp [h]
theorem place_get {q : KV} : ∀ {xs : List CV} {k : Int}, 0 ≤ k → 0 ≤ placeF q xs k → ∃ c, xs[(placeF q xs k - k).toNat]? = some c ∧ c.key = q
  | [], k, hk, h => by simp [placeF] at h
  | c :: r, k, hk, h => by
    unfold placeF at h ⊢
    by_cases hc : c.key = q
    · rw [if_pos hc]; exact ⟨c, by simp, hc⟩
    · rw [if_neg hc] at h ⊢
      obtain ⟨d, hd, hq⟩ := place_get (q := q) (xs := r) (k := k + 1) (by omega) h
      have hb := place_bd (q := q) (xs := r) (k := k + 1) (by omega) h
      refine ⟨d, ?_, hq⟩
      have e : (placeF q r (k + 1) - k).toNat = (placeF q r (k + 1) - (k + 1)).toNat + 1 := by omega
      rw [e, List.getElem?_cons_succ]
      exact hd
theorem rightCL_zero : ∀ {xs pre : List CV}, rightCL pre xs = 0 → (∀ c ∈ xs, mayF c = true) ∧ (xs.map CV.key).Nodup ∧ ∀ c ∈ xs, ∀ d ∈ pre, d.key ≠ c.key
  | [], pre, _ => ⟨(fun c hc => nomatch hc), List.nodup_nil, (fun c hc => nomatch hc)⟩
  | c :: r, pre, h => by
    unfold rightCL at h
    split at h
    · rename_i h1
      obtain ⟨i1, i2, i3⟩ := rightCL_zero h
      have hm : mayF c = true := by
        unfold closE at h1
        split at h1
        · omega
        · rename_i h2; simpa using h2
      have hp : ¬ 0 ≤ placeF c.key pre 0 := by
        unfold closE at h1
        split at h1
        · omega
        · split at h1
          · omega
          · assumption
      refine ⟨fun d hd => ?_, ?_, fun d hd e he => ?_⟩
      · rcases List.mem_cons.1 hd with rfl | hd
        · exact hm
        · exact i1 d hd
      · rw [List.map_cons]
        refine List.nodup_cons.2 ⟨fun hk => ?_, i2⟩
        obtain ⟨d, hd, hk⟩ := List.mem_map.1 hk
        exact i3 d hd c (by simp) hk.symm
      · rcases List.mem_cons.1 hd with rfl | hd
        · exact fun hk => hp ((place_iff (Int.le_refl 0)).2 ⟨e, he, hk⟩)
        · exact i3 d hd e (List.mem_append_left _ he)
    · contradiction
structure GoodC (xs : List CV) : Prop where
  len : xs.length ≤ 200
  may : ∀ c ∈ xs, mayF c = true
  keys : (xs.map CV.key).Nodup
theorem right_good {xs : List CV} (h : rightC xs = 0) : GoodC xs := by
  unfold rightC at h
  split at h
  · omega
  · obtain ⟨h1, h2, -⟩ := rightCL_zero h
    exact ⟨by omega, h1, h2⟩
theorem rightCL_good : ∀ {xs pre : List CV}, (∀ c ∈ xs, mayF c = true) → (xs.map CV.key).Nodup → (∀ c ∈ xs, ∀ d ∈ pre, d.key ≠ c.key) → rightCL pre xs = 0
  | [], pre, _, _, _ => rfl
  | c :: r, pre, h1, h2, h3 => by
    rw [List.map_cons] at h2
    obtain ⟨h4, h5⟩ := List.nodup_cons.1 h2
    have he : closE pre c = 0 := by
      unfold closE
      rw [if_neg (by rw [h1 c (List.mem_cons_self ..)]; simp), if_neg]
      intro h
      obtain ⟨d, hd, hk⟩ := (place_iff (Int.le_refl 0)).1 h
      exact h3 c (List.mem_cons_self ..) d hd hk
    rw [rightCL_go he]
    refine rightCL_good (fun d hd => h1 d (List.mem_cons_of_mem _ hd)) h5 (fun d hd e he => ?_)
    rcases List.mem_append.1 he with he | he
    · exact h3 d (List.mem_cons_of_mem _ hd) e he
    · rw [List.mem_singleton.1 he]
      intro hk
      exact h4 (List.mem_map.2 ⟨d, hd, hk.symm⟩)
theorem GoodC.right {xs : List CV} (h : GoodC xs) : rightC xs = 0 := by
  unfold rightC
  rw [if_neg (by have := h.len; omega)]
  exact rightCL_good h.may h.keys (fun c _ d hd => by cases hd)
/-! Of. -/
theorem off_mem (kind target : Int) (xs : List CV) : ∀ (f : Nat) (b y : Int), y ∈ offC kind target xs f b ↔ b ≤ y ∧ y < b + f ∧ 0 ≤ placeF ⟨kind, target, y⟩ xs 0
  | 0, b, y => by simp [offC]; omega
  | f + 1, b, y => by
    have ih := off_mem kind target xs f (b + 1) y
    unfold offC
    by_cases hp : 0 ≤ placeF ⟨kind, target, b⟩ xs 0
    · rw [if_pos hp, List.mem_cons, ih]
      constructor
      · rintro (rfl | ⟨h1, h2, h3⟩)
        · exact ⟨Int.le_refl _, by omega, hp⟩
        · exact ⟨by omega, by omega, h3⟩
      · rintro ⟨h1, h2, h3⟩
        by_cases e : y = b
        · exact .inl e
        · exact .inr ⟨by omega, by omega, h3⟩
    · rw [if_neg hp, ih]
      constructor
      · rintro ⟨h1, h2, h3⟩; exact ⟨by omega, by omega, h3⟩
      · rintro ⟨h1, h2, h3⟩
        refine ⟨?_, by omega, h3⟩
        by_cases e : y = b
        · subst e; exact absurd h3 hp
        · omega
theorem off_inc (kind target : Int) (xs : List CV) : ∀ (f : Nat) (b : Int), Inc (offC kind target xs f b)
  | 0, _ => List.Pairwise.nil
  | f + 1, b => by
    have ih := off_inc kind target xs f (b + 1)
    unfold offC
    split
    · refine List.pairwise_cons.2 ⟨fun y hy => ?_, ih⟩
      have := ((off_mem kind target xs f (b + 1) y).1 hy).1
      omega
    · exact ih
theorem mem_ofC {kind target y : Int} {xs : List CV} : y ∈ ofC kind target xs ↔ ∃ c ∈ xs, c.key = ⟨kind, target, y⟩ := by
  unfold ofC
  rw [List.mem_map]
  constructor
  · rintro ⟨c, hc, rfl⟩
    obtain ⟨h1, h2⟩ := List.mem_filter.1 hc
    simp at h2
    exact ⟨c, h1, by obtain ⟨a, b⟩ := h2; rw [CV.key, a, b]⟩
  · rintro ⟨c, hc, hk⟩
    have h1 : c.kind = kind ∧ c.target = target ∧ c.by_ = y := by
      have := congrArg KV.kind hk; have h2 := congrArg KV.target hk; have h3 := congrArg KV.by_ hk
      exact ⟨this, h2, h3⟩
    exact ⟨c, List.mem_filter.2 ⟨hc, by simp [h1.1, h1.2.1]⟩, h1.2.2⟩
theorem ofC_nodup {kind target : Int} {xs : List CV} (h : (xs.map CV.key).Nodup) : (ofC kind target xs).Nodup := by
  unfold ofC
  rw [List.nodup_iff_pairwise_ne, List.pairwise_map]
  have h2 := List.pairwise_map.1 (List.nodup_iff_pairwise_ne.1 h)
  refine (h2.sublist List.filter_sublist).imp_of_mem (fun {a b} ha hb hab hk => hab ?_)
  have h3 := (List.mem_filter.1 ha).2
  have h4 := (List.mem_filter.1 hb).2
  simp at h3 h4
  rw [CV.key, CV.key, h3.1, h3.2, h4.1, h4.2, hk]
theorem of_off {xs : List CV} (h : GoodC xs) (kind target : Int) : sortI (ofC kind target xs) = offC kind target xs 6 1 := by
  refine sort_inc (ofC_nodup h.keys) (off_inc _ _ _ _ _) (fun y => ?_)
  rw [mem_ofC, off_mem, place_iff (Int.le_refl 0)]
  constructor
  · rintro ⟨c, hc, hk⟩
    obtain ⟨-, -, -, -, h5, h6, -, -⟩ := may_of (h.may c hc)
    have : c.by_ = y := congrArg KV.by_ hk
    exact ⟨by omega, by omega, c, hc, hk⟩
  · rintro ⟨-, -, h3⟩; exact h3
theorem closed_of {xs : List CV} {kind target : Int} : closedF kind target xs = decide (0 < (ofC kind target xs).length) := by
  rw [Bool.eq_iff_iff, decide_eq_true_eq, closedF, List.any_eq_true, List.length_pos_iff_exists_mem]
  constructor
  · rintro ⟨c, hc, hk⟩
    simp [hitC] at hk
    exact ⟨c.by_, mem_ofC.2 ⟨c, hc, by rw [CV.key, hk.1, hk.2]⟩⟩
  · rintro ⟨y, hy⟩
    obtain ⟨c, hc, hk⟩ := mem_ofC.1 hy
    have h1 := congrArg KV.kind hk
    have h2 := congrArg KV.target hk
    exact ⟨c, hc, by simp [hitC]; exact ⟨h1, h2⟩⟩
theorem sort_len (l : List Int) : (sortI l).length = l.length := by simp [sortI]
theorem closed_off {xs : List CV} (h : GoodC xs) (kind target : Int) : decide (0 < (offC kind target xs 6 1).length) = closedF kind target xs := by
  rw [closed_of, ← of_off h, sort_len]
def liftF (xs : List CV) (lift : Int) : Bool := closedF 2 lift xs
def runF (us : List UD) (xs : List CV) (run : Int) : Bool := match findU run us with
  | none => false
  | some r => closedF 1 run xs || closedF 3 r.zone xs
end Go.Proofs.Ytpckebhmdjhniaa
