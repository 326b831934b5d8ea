/- Own rows of numbers made small by the library; the increasing list of a list's members. -/
import Derived.Test.YtfajjgkhanjcfaaGreatRevC
namespace Go.Proofs.YtfajjgkhanjcfaaGreat
set_option linter.unusedSimpArgs false
set_option linter.unusedVariables false
open Go.RowKit Go.Sort
theorem inc_ext {l m : List Int} (hl : Inc l) (hm : Inc m) (h : ∀ y, y ∈ l ↔ y ∈ m) : l = m := by
  have e1 : sortI l = l := sort_inc (inc_nodup hl) hl (fun _ => Iff.rfl)
  have e2 : sortI l = m := sort_inc (inc_nodup hl) hm h
  rw [← e1, e2]
theorem sorted_pairs (l : List Int) : ∀ j, 0 < j → j < (sortI l).toArray.size → (sortI l).toArray[j - 1]! ≤ (sortI l).toArray[j]! := by
  have tr : ∀ a b c : Int, decide (a ≤ b) = true → decide (b ≤ c) = true → decide (a ≤ c) = true := fun a b c h1 h2 => by simp at *; omega
  have tot : ∀ a b : Int, (decide (a ≤ b) || decide (b ≤ a)) = true := fun a b => by simp; omega
  have hp : (sortI l).Pairwise (fun x y => decide (x ≤ y) = true) := List.pairwise_mergeSort tr tot l
  intro j h0 hj
  have h1 : j < (sortI l).length := by simpa using hj
  have h2 := List.pairwise_iff_getElem.1 hp (j - 1) j (by omega) h1 (by omega)
  have h3 : j - 1 < (sortI l).toArray.size := by omega
  rw [getElem!_pos (sortI l).toArray j hj, getElem!_pos (sortI l).toArray (j - 1) h3]
  simpa using h2
theorem compact_sort (l : List Int) : Inc (Lib.compact (sortI l)) ∧ ∀ y, y ∈ Lib.compact (sortI l) ↔ y ∈ l := by
  obtain ⟨h1, h2, -⟩ := compact_mem (d := (sortI l).toArray) (sorted_pairs l) (sortI l).length (by simp)
  refine ⟨h1, fun y => ?_⟩
  show y ∈ Lib.compactUpTo _ _ ↔ _
  rw [h2, show y ∈ l ↔ y ∈ sortI l from List.mem_mergeSort.symm]
  constructor
  · rintro ⟨j, hj, rfl⟩
    have hj' : j < (sortI l).toArray.size := by simpa using hj
    rw [getElem!_pos (sortI l).toArray j hj']
    simp
  · intro hy
    obtain ⟨j, hj, e⟩ := List.mem_iff_getElem.1 hy
    have hj' : j < (sortI l).toArray.size := by simpa using hj
    exact ⟨j, hj, by rw [getElem!_pos (sortI l).toArray j hj']; simpa using e⟩
/-- An increasing list with a number that it may have already. -/
def putI : List Int → Int → List Int
  | [], n => [n]
  | x :: r, n => if n ≤ x then (if n < x then n :: x :: r else x :: r) else x :: putI r n
theorem mem_putI {n y : Int} : ∀ {l : List Int}, y ∈ putI l n ↔ y = n ∨ y ∈ l
  | [] => by simp [putI]
  | x :: r => by
    have ih := mem_putI (n := n) (y := y) (l := r)
    unfold putI
    split
    · split
      · simp
      · have : n = x := by omega
        subst this
        simp
    · rw [List.mem_cons, List.mem_cons, ih]
      constructor
      · rintro (h | h | h)
        · exact .inr (.inl h)
        · exact .inl h
        · exact .inr (.inr h)
      · rintro (h | h | h)
        · exact .inr (.inl h)
        · exact .inl h
        · exact .inr (.inr h)
theorem inc_putI {n : Int} : ∀ {l : List Int}, Inc l → Inc (putI l n)
  | [], _ => List.pairwise_singleton _ _
  | x :: r, h => by
    obtain ⟨h1, h2⟩ := List.pairwise_cons.1 h
    have ih := inc_putI (n := n) h2
    unfold putI
    split
    · split
      · refine List.pairwise_cons.2 ⟨fun y hy => ?_, h⟩
        rcases List.mem_cons.1 hy with rfl | hy
        · assumption
        · have := h1 y hy; omega
      · exact h
    · refine List.pairwise_cons.2 ⟨fun y hy => ?_, ih⟩
      rcases mem_putI.1 hy with rfl | hy
      · omega
      · exact h1 y hy
/-- The increasing list of a list's members. -/
def setI (l : List Int) : List Int := l.foldl putI []
theorem fold_put : ∀ (l acc : List Int), Inc acc → Inc (l.foldl putI acc) ∧ ∀ y, y ∈ l.foldl putI acc ↔ y ∈ l ∨ y ∈ acc
  | [], acc, h => ⟨h, fun y => by simp⟩
  | x :: r, acc, h => by
    obtain ⟨h1, h2⟩ := fold_put r (putI acc x) (inc_putI h)
    refine ⟨h1, fun y => ?_⟩
    rw [List.foldl_cons, h2, mem_putI, List.mem_cons]
    constructor
    · rintro (h | h | h)
      · exact .inl (.inr h)
      · exact .inl (.inl h)
      · exact .inr h
    · rintro ((h | h) | h)
      · exact .inr (.inl h)
      · exact .inl h
      · exact .inr (.inr h)
theorem inc_setI (l : List Int) : Inc (setI l) := (fold_put l [] List.Pairwise.nil).1
theorem mem_setI {l : List Int} {y : Int} : y ∈ setI l ↔ y ∈ l := by
  have := (fold_put l [] List.Pairwise.nil).2 y
  unfold setI
  rw [this]; simp
theorem setI_ext {l m : List Int} (h : ∀ y, y ∈ l ↔ y ∈ m) : setI l = setI m := inc_ext (inc_setI l) (inc_setI m) (fun y => by rw [mem_setI, mem_setI, h])
theorem setI_inc {l : List Int} (h : Inc l) : setI l = l := inc_ext (inc_setI l) h (fun _ => mem_setI)
theorem compact_set (l : List Int) : Lib.compact (sortI l) = setI l := by
  obtain ⟨h1, h2⟩ := compact_sort l
  exact inc_ext h1 (inc_setI l) (fun y => by rw [h2, mem_setI])
theorem setI_len (l : List Int) : (setI l).length ≤ l.length := nodup_len (inc_nodup (inc_setI l)) (fun _ h => mem_setI.1 h)
theorem grow_nil (W : World) : grow W #[] = W := by cases W; simp [grow]
theorem compact_own (w : World) (base : Nat) (v : Sl) (ss : List Int) (h : OwnI w base v ss) (hl : v.n ≤ 100000) (hlen : (Lib.compact ss).length ≤ ss.length) (hb : base ≤ w.heap.size) : Calls Tryz.prog 73 #[v.val] w fun e w' => ∃ v' : Sl, e = .returned v'.val ∧ Below base w w' ∧ OwnI w' base v' (Lib.compact ss) := by
  obtain ⟨A, n, c⟩ := v
  have hn : ss.length = n := h.len
  dsimp only at hl
  rcases h.row.2 with ⟨hv, h0⟩ | ⟨g, cap, cur, hv, h3, h4, h5, h6, h7, h8⟩
  · injection hv with e1 e2 e3
    have h0' : n = 0 := h0
    subst e1 h0' e3
    have hs : ss = [] := List.eq_nil_of_length_eq_zero hn
    subst hs
    refine (Tryz.slices_Compact_int_empty none 0 w).mono ?_
    rintro e w' ⟨rfl, rfl⟩
    exact ⟨⟨none, 0, 0⟩, rfl, Below.refl _ _, by simpa [Lib.compact, Lib.compactUpTo] using h⟩
  · injection hv with e1 e2 e3
    subst e1 e3 hn
    rw [flatI] at h8
    rw [Nat.mul_one] at h8
    have hH : Holds (Value.int .i64) w g 0 ss.toArray := holds_of_blockI (e := 3) h4 h8
    refine (Tryz.slices_Compact_int g 0 c ss w hH (by omega) (by omega)).mono ?_
    rintro e w' ⟨rfl, q, rfl⟩
    have hZ : (Lib.compact ss ++ List.replicate (ss.length - (Lib.compact ss).length) 0).length = ss.length := by simp; omega
    refine ⟨⟨some ⟨g, 0, none⟩, (Lib.compact ss).length, c⟩, rfl, ?_, ⟨rfl, ?_⟩⟩
    · refine Below.grown (Below.refl _ _) (row := some g) ?_ hb (fun j hj => by cases hj; exact h3)
      have := grownBy_sortedI (w := w) (g := g) (n := q) (os := #[]) (Lib.compact ss ++ List.replicate (ss.length - (Lib.compact ss).length) 0).toArray
      rw [grow_nil] at this
      exact this
    · have hr := ownsRow_sortedI (os := #[]) (n := q) (cap := c) (ss := ss) (ts := Lib.compact ss ++ List.replicate (ss.length - (Lib.compact ss).length) 0) hZ h3 h4 h5 h6 h7
      rw [flatI]
      rcases hr.2 with ⟨hv2, -⟩ | ⟨g2, cap2, cur2, hv2, k3, k4, k5, k6, k7, k8⟩
      · cases hv2
      · injection hv2 with f1 f2 f3
        cases f1
        subst f3
        refine ⟨by simp, .inr ⟨g, c, cur2, rfl, k3, by rw [grow_nil] at k4; exact k4, by show (Lib.compact ss).length ≤ c; have k5' := hZ ▸ k5; omega, k6, k7, ?_⟩⟩
        rw [Nat.mul_one] at k8 ⊢
        have h9 := congrArg (List.take (Lib.compact ss).length) k8
        rw [List.take_take, Nat.min_eq_left hlen] at h9
        refine h9.trans ?_
        rw [List.map_append, List.take_append_of_le_length (by simp), List.take_of_length_le (by simp)]
end Go.Proofs.YtfajjgkhanjcfaaGreat
