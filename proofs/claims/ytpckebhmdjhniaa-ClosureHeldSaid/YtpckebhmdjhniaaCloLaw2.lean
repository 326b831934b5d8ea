/- Closures: the plain laws of Close and Open; whether a list has a number. -/
import Derived.Test.YtpckebhmdjhniaaCloRt
namespace Go.Proofs.Ytpckebhmdjhniaa
set_option linter.unusedSimpArgs false
set_option linter.unusedVariables false
open Go.RowKit
theorem mem_sortI {l : List Int} {y : Int} : y ∈ sortI l ↔ y ∈ l := List.mem_mergeSort
theorem has_of {xs : List CV} {q : KV} : decide (q.by_ ∈ sortI (ofC q.kind q.target xs)) = decide (0 ≤ placeF q xs 0) := by
  rw [decide_eq_decide, mem_sortI, mem_ofC, place_iff (Int.le_refl 0)]
theorem split_at {xs : List CV} {q : KV} (h : 0 ≤ placeF q xs 0) : ∃ (k : Nat) (x : CV), placeF q xs 0 = (k : Int) ∧ k < xs.length ∧ xs[k]? = some x ∧ x.key = q ∧ xs = xs.take k ++ x :: xs.drop (k + 1) ∧ dropC q xs = xs.take k ++ xs.drop (k + 1) := by
  obtain ⟨x, hx, hq⟩ := place_get (Int.le_refl 0) h
  have hb := place_bd (Int.le_refl 0) h
  refine ⟨(placeF q xs 0).toNat, x, by omega, by omega, by simpa using hx, hq, ?_, rfl⟩
  have hlt : (placeF q xs 0).toNat < xs.length := by omega
  have h2 : xs[(placeF q xs 0).toNat]? = some x := by simpa using hx
  have h3 : xs[(placeF q xs 0).toNat] = x := by rw [List.getElem?_eq_getElem hlt] at h2; exact Option.some.inj h2
  rw [← h3, ← List.drop_eq_getElem_cons hlt, List.take_append_drop]
theorem GoodC.drop {xs : List CV} {q : KV} (h : GoodC xs) (hp : 0 ≤ placeF q xs 0) : GoodC (dropC q xs) ∧ (dropC q xs).length + 1 = xs.length ∧ (∀ c, c ∈ dropC q xs ↔ c ∈ xs ∧ c.key ≠ q) := by
  obtain ⟨k, x, -, hk, -, hq, hs, hd⟩ := split_at hp
  have hn := h.keys
  rw [hs, List.map_append, List.map_cons] at hn
  obtain ⟨n1, n2, n3⟩ := List.nodup_append.1 hn
  obtain ⟨n4, n5⟩ := List.nodup_cons.1 n2
  have hl : (dropC q xs).length + 1 = xs.length := by rw [hd]; simp; omega
  have hm : ∀ c, c ∈ dropC q xs ↔ c ∈ xs ∧ c.key ≠ q := by
    intro c
    rw [hd]
    constructor
    · intro hc
      rcases List.mem_append.1 hc with hc | hc
      · refine ⟨List.mem_of_mem_take hc, fun e => ?_⟩
        exact n3 c.key (List.mem_map.2 ⟨c, hc, rfl⟩) x.key (List.mem_cons_self ..) (by rw [e, hq])
      · refine ⟨List.mem_of_mem_drop hc, fun e => ?_⟩
        exact n4 (List.mem_map.2 ⟨c, hc, by rw [e, hq]⟩)
    · rintro ⟨hc, hne⟩
      rw [hs] at hc
      rcases List.mem_append.1 hc with hc | hc
      · exact List.mem_append_left _ hc
      · rcases List.mem_cons.1 hc with rfl | hc
        · exact absurd hq hne
        · exact List.mem_append_right _ hc
  refine ⟨⟨by have := h.len; omega, fun c hc => h.may c ((hm c).1 hc).1, ?_⟩, hl, hm⟩
  rw [hd, List.map_append]
  exact List.nodup_append.2 ⟨n1, n5, fun a ha b hb => n3 a ha b (List.mem_cons_of_mem _ hb)⟩
theorem GoodC.add {xs : List CV} {c : CV} (h : GoodC xs) (hm : mayF c = true) (hp : ¬ 0 ≤ placeF c.key xs 0) (hl : ¬ 200 ≤ xs.length) : GoodC (xs ++ [c]) := by
  refine ⟨by simp; omega, fun d hd => ?_, ?_⟩
  · rcases List.mem_append.1 hd with hd | hd
    · exact h.may d hd
    · rw [List.mem_singleton.1 hd]; exact hm
  · rw [List.map_append]
    refine List.nodup_append.2 ⟨h.keys, by simp, fun a ha b hb => ?_⟩
    simp at hb
    subst hb
    intro e
    subst e
    obtain ⟨d, hd, hk⟩ := List.mem_map.1 ha
    exact hp ((place_iff (Int.le_refl 0)).2 ⟨d, hd, hk⟩)
theorem place_of_mem {xs ys : List CV} {q : KV} (h : (∃ c ∈ xs, c.key = q) ↔ ∃ c ∈ ys, c.key = q) : decide (0 ≤ placeF q xs 0) = decide (0 ≤ placeF q ys 0) := by
  rw [decide_eq_decide, place_iff (Int.le_refl 0), place_iff (Int.le_refl 0), h]
theorem key_unique {xs : List CV} (h : (xs.map CV.key).Nodup) {c d : CV} (hc : c ∈ xs) (hd : d ∈ xs) (hk : c.key = d.key) : c = d := by
  induction xs with
  | nil => cases hc
  | cons x r ih =>
    rw [List.map_cons] at h
    obtain ⟨h1, h2⟩ := List.nodup_cons.1 h
    rcases List.mem_cons.1 hc with e | hc <;> rcases List.mem_cons.1 hd with e2 | hd
    · rw [e, e2]
    · exact absurd (List.mem_map.2 ⟨d, hd, by rw [← hk, e]⟩) h1
    · exact absurd (List.mem_map.2 ⟨c, hc, by rw [hk, e2]⟩) h1
    · exact ih h2 hc hd
/-- What Open and Close leave at a key: the same closure, where both have one. -/
theorem same_at {xs ys : List CV} {q : KV} (hx : GoodC xs) (hs : ∀ c ∈ ys, c.key = q → c ∈ xs) (hp : 0 ≤ placeF q xs 0) (hr : 0 ≤ placeF q ys 0) : ∃ (p r : Nat) (c : CV), placeF q xs 0 = p ∧ placeF q ys 0 = r ∧ xs[p]? = some c ∧ ys[r]? = some c := by
  obtain ⟨p, c, h1, -, h2, h3, -, -⟩ := split_at hp
  obtain ⟨r, d, h4, -, h5, h6, -, -⟩ := split_at hr
  have hd := hs d (List.mem_of_getElem? h5) h6
  obtain rfl := key_unique hx.keys (List.mem_of_getElem? h2) hd (by rw [h3, h6])
  exact ⟨p, r, c, h1, h4, h2, h5⟩
def memI (v : Int) : List Int → Bool
  | [] => false
  | x :: r => if x = v then true else memI v r
theorem memI_iff (v : Int) : ∀ l : List Int, memI v l = decide (v ∈ l)
  | [] => by simp [memI]
  | x :: r => by
    have ih := memI_iff v r
    unfold memI
    by_cases h : x = v
    · rw [if_pos h]; simp [h]
    · rw [if_neg h, ih]
      have h' : ¬ v = x := fun e => h e.symm
      simp [h']
set_option maxRecDepth 100000 in
set_option maxHeartbeats 1600000 in
theorem law52_has (s : Sl) (xs : List Int) (v : Int) (w : World) (hs : Rd w encI s xs) : Calls Try.prog 27 #[s.val, .int .i64 v] w (Gives (.bool (decide (v ∈ xs))) w) := by
  obtain ⟨A, n, c⟩ := s
  have hmax : n ≤ 9223372036854775807 := hs.bound
  have Hs := Lib.hid hs
  clear hs
  simp only [Sl.val]
  rw [← memI_iff]
  (go_enter Try.func27, Try.ntmps27; try dsimp only [List.append])
  go_wp2_with fail
  go_loop [5] (fun i => ∃ k : Nat, k ≤ n ∧ i = .int .i64 k ∧ Hid (memI v (xs.drop k) = memI v xs)) (fun i => n - (intOf i).toNat)
  case atStart => exact ⟨0, Nat.zero_le _, rfl, rfl⟩
  case round =>
    obtain ⟨k, hk, rfl, Hl⟩ := hrel
    by_cases hlt : k < n
    · obtain ⟨b, off, x, rfl, hbw, Hx, -, hc0⟩ := Hs.out.int hlt
      by_cases he : x = v
      · have HE : Hid (memI v xs = true) := by show _ = _; rw [← Hl.out, Hx.out, memI, if_pos he]
        have hb : (x == v) = true := by simpa using he
        clear he
        go_wp2_with fail
        go_ret
        exact gives_of (ret_bool HE.out.symm) (by go_light; (repeat' (first | (with_reducible exact Below.refl _ _) | (with_reducible exact Nat.le_refl _) | (with_reducible assumption) | (with_reducible refine below_step ?_ ?_ hr) | (with_reducible refine below_over ?_ ?_ _) | (with_reducible refine Below.alloc ?_ ?_ _) | (with_reducible refine Below.setCell ?_ ?_ _) | (with_reducible refine below_put ?_ ?_ _) | (with_reducible refine Below.drew ?_) | (with_reducible refine below_drewN_ ?_ _) | (with_reducible refine le_drewN ?_ _) | (with_reducible refine over_le _ _ _ ?_) | (with_reducible refine le_alloc ?_ _) | (with_reducible refine le_setCell ?_ _ _) | (with_reducible refine le_put ?_ _ _) | (with_reducible refine le_drew ?_) | dsimp only | omega | ((try simp only [World.size_alloc, World.size_setCell, World.size_drew, size_put]); omega) | (simp; done))))
      · have HE : Hid (memI v (xs.drop (k + 1)) = memI v xs) := by show _ = _; rw [← Hl.out, Hx.out, memI, if_neg he]
        have hb : (x == v) = false := by simpa using he
        clear he
        go_wp2_with fail
        go_round
        case rel => exact ⟨k + 1, by omega, by go_num, HE⟩
        case measure => (simp [intOf] <;> omega)
    · have HE : Hid (memI v xs = false) := by show _ = _; rw [← Hl.out, Hs.out.done_ hlt]; rfl
      go_wp2_with fail
      go_ret
      exact gives_of (ret_bool HE.out.symm) (by go_light; (repeat' (first | (with_reducible exact Below.refl _ _) | (with_reducible exact Nat.le_refl _) | (with_reducible assumption) | (with_reducible refine below_step ?_ ?_ hr) | (with_reducible refine below_over ?_ ?_ _) | (with_reducible refine Below.alloc ?_ ?_ _) | (with_reducible refine Below.setCell ?_ ?_ _) | (with_reducible refine below_put ?_ ?_ _) | (with_reducible refine Below.drew ?_) | (with_reducible refine below_drewN_ ?_ _) | (with_reducible refine le_drewN ?_ _) | (with_reducible refine over_le _ _ _ ?_) | (with_reducible refine le_alloc ?_ _) | (with_reducible refine le_setCell ?_ _ _) | (with_reducible refine le_put ?_ _ _) | (with_reducible refine le_drew ?_) | dsimp only | omega | ((try simp only [World.size_alloc, World.size_setCell, World.size_drew, size_put]); omega) | (simp; done))))
theorem has_is {s : Sl} {q : KV} {xs : List CV} {b : Bool} (hb : decide (0 ≤ placeF q xs 0) = b) {w : World} (hs : Rd w encI s (sortI (ofC q.kind q.target xs))) : Calls Try.prog 27 #[s.val, .int .i64 q.by_] w (Gives (.bool b) w) := by
  have h := law52_has s _ q.by_ w hs
  rw [has_of, hb] at h
  exact h
end Go.Proofs.Ytpckebhmdjhniaa
