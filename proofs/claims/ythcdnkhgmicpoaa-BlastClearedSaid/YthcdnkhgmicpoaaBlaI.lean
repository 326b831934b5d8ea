/- Missions: the place of one; whether a slide is taken; a copy. -/
import Derived.Test.YthcdnkhgmicpoaaBla
namespace Go.Proofs.Ythcdnkhgmicpoaa
set_option linter.unusedSimpArgs false
set_option linter.unusedVariables false
open Go.RowKit
def idxM (id : Int) (k : Int) : List MS → Int
  | [] => -1
  | m :: r => if (m.id == id) = true then k else idxM id (k + 1) r
theorem idx_bd {id : Int} : ∀ {l : List MS} {k : Int}, 0 ≤ k → idxM id k l = -1 ∨ (k ≤ idxM id k l ∧ idxM id k l < k + l.length)
  | [], k, _ => .inl rfl
  | m :: r, k, hk => by
    unfold idxM
    split
    · exact .inr ⟨Int.le_refl _, by simp; omega⟩
    · rcases idx_bd (id := id) (l := r) (k := k + 1) (by omega) with h | h
      · exact .inl h
      · exact .inr ⟨by omega, by simp; omega⟩
def takenM (slide : Int) : List MS → Bool
  | [] => false
  | m :: r => if (openM m && (m.slide == slide)) = true then true else takenM slide r
abbrev idV (B : Nat) : Value := .func (.func 56) #[] #[.pointer (some ⟨B, 0, none⟩)]
set_option maxRecDepth 100000 in
set_option maxHeartbeats 800000 in
theorem bla_find1 (m : MS) (id : Int) (B : Nat) (w : World) (hB : w.heap[B]? = some (.cells #[.int .i64 id] 3)) : Calls Try.prog 56 #[m.val, .pointer (some ⟨B, 0, none⟩)] w (Gives (.bool (m.id == id)) w) := by
  obtain ⟨mid, slide, by_, state, since, fr, till⟩ := m
  have qB := cell_of_block hB
  have hlt : B < w.heap.size := (Array.getElem?_eq_some_iff.1 hB).1
  clear hB
  have q0 := qB 0
  (go_enter Try.func56, Try.ntmps56; try dsimp only [List.append])
  go_wp2_with fail
  go_ret
  exact gives_of rfl (by go_light; (repeat' (first | (with_reducible exact Below.refl _ _) | (with_reducible exact Nat.le_refl _) | (with_reducible assumption) | (with_reducible refine below_step ?_ ?_ hr) | (with_reducible refine below_over ?_ ?_ _) | (with_reducible refine Below.alloc ?_ ?_ _) | (with_reducible refine Below.setCell ?_ ?_ _) | (with_reducible refine below_put ?_ ?_ _) | (with_reducible refine Below.drew ?_) | (with_reducible refine below_drewN_ ?_ _) | (with_reducible refine le_drewN ?_ _) | (with_reducible refine over_le _ _ _ ?_) | (with_reducible refine le_alloc ?_ _) | (with_reducible refine le_setCell ?_ _ _) | (with_reducible refine le_put ?_ _ _) | (with_reducible refine le_drew ?_) | dsimp only | omega | ((try simp only [World.size_alloc, World.size_setCell, World.size_drew, size_put]); omega) | (simp; done))))
set_option maxRecDepth 100000 in
set_option maxHeartbeats 1600000 in
theorem index_ms (s : Sl) (l : List MS) (id : Int) (B : Nat) (w : World) (hB : w.heap[B]? = some (.cells #[.int .i64 id] 3)) (hs : Rd w MS.enc s l) : Calls Try.prog 55 #[s.val, idV B] w (Gives (.int .i64 (idxM id 0 l)) w) := by
  obtain ⟨A, n, c⟩ := s
  have Hs := Lib.hid hs
  have HB := Lib.hid hB
  have hlt : B < w.heap.size := (Array.getElem?_eq_some_iff.1 hB).1
  have hmax : n ≤ 9223372036854775807 := Hs.out.bound
  clear hB hs
  generalize hV : idxM id 0 l = V
  have HV := Lib.hid hV
  clear hV
  simp only [Sl.val, idV]
  (go_enter Try.func55, Try.ntmps55; try dsimp only [List.append])
  go_wp2_with fail
  go_loopw [5, 8] (fun _ i wr => ∃ k : Nat, k ≤ n ∧ i = .int .i64 k ∧ Hid (idxM id k (l.drop k) = V) ∧ Below w.heap.size w wr) (fun _ i _ => n - (intOf i).toNat)
  case atStart => exact ⟨0, Nat.zero_le _, rfl, HV, Below.refl _ _⟩
  case round =>
    obtain ⟨k, hk, rfl, Hl, hBw⟩ := hrel
    have hzr := hBw.size
    by_cases hlk : k < n
    · obtain ⟨b, off, ⟨mid, slide, by_, state, since, fr, till⟩, rfl, hbw, Hx, -, hc0, hc1, hc2, hc3, hc4, hc5, hc6⟩ := Hs.out.ms hlk
      have e0 := (hBw.cell (p := ⟨b, _, none⟩) hbw).trans hc0
      have e1 := (hBw.cell (p := ⟨b, _, none⟩) hbw).trans hc1
      have e2 := (hBw.cell (p := ⟨b, _, none⟩) hbw).trans hc2
      have e3 := (hBw.cell (p := ⟨b, _, none⟩) hbw).trans hc3
      have e4 := (hBw.cell (p := ⟨b, _, none⟩) hbw).trans hc4
      have e5 := (hBw.cell (p := ⟨b, _, none⟩) hbw).trans hc5
      have e6 := (hBw.cell (p := ⟨b, _, none⟩) hbw).trans hc6
      clear hc0 hc1 hc2 hc3 hc4 hc5 hc6
      cases hh : (mid == id)
      · have HE : Hid (idxM id ((k + 1 : Nat) : Int) (l.drop (k + 1)) = V) := by show _ = _; rw [← Hl.out, Hx.out, idxM, if_neg (by rw [hh]; simp)]; simp
        have Hc := Lib.hid (fun w' (h : Below w.heap.size w w') => hh ▸ bla_find1 ⟨mid, slide, by_, state, since, fr, till⟩ id B w' ((h.block _ hlt).trans HB.out))
        clear hh
        go_wp2_with (go_at_call 56; refine (Hc.out _ (by (repeat' (first | (with_reducible exact Below.refl _ _) | (with_reducible exact Nat.le_refl _) | (with_reducible assumption) | (with_reducible refine below_step ?_ ?_ hr) | (with_reducible refine below_over ?_ ?_ _) | (with_reducible refine Below.alloc ?_ ?_ _) | (with_reducible refine Below.setCell ?_ ?_ _) | (with_reducible refine below_put ?_ ?_ _) | (with_reducible refine Below.drew ?_) | (with_reducible refine below_drewN_ ?_ _) | (with_reducible refine le_drewN ?_ _) | (with_reducible refine over_le _ _ _ ?_) | (with_reducible refine le_alloc ?_ _) | (with_reducible refine le_setCell ?_ _ _) | (with_reducible refine le_put ?_ _ _) | (with_reducible refine le_drew ?_) | dsimp only | omega | ((try simp only [World.size_alloc, World.size_setCell, World.size_drew, size_put]); omega) | (simp; done))))).mono ?_; rintro e w1 hg; obtain ⟨rfl, hb⟩ := hg.below; clear hg; have hz := hb.size; (try simp only [World.size_alloc, World.size_setCell, World.size_drew, size_put] at hz); have hB : Below w.heap.size w w1 := below_step (by (repeat' (first | (with_reducible exact Below.refl _ _) | (with_reducible exact Nat.le_refl _) | (with_reducible assumption) | (with_reducible refine below_step ?_ ?_ hr) | (with_reducible refine below_over ?_ ?_ _) | (with_reducible refine Below.alloc ?_ ?_ _) | (with_reducible refine Below.setCell ?_ ?_ _) | (with_reducible refine below_put ?_ ?_ _) | (with_reducible refine Below.drew ?_) | (with_reducible refine below_drewN_ ?_ _) | (with_reducible refine le_drewN ?_ _) | (with_reducible refine over_le _ _ _ ?_) | (with_reducible refine le_alloc ?_ _) | (with_reducible refine le_setCell ?_ _ _) | (with_reducible refine le_put ?_ _ _) | (with_reducible refine le_drew ?_) | dsimp only | omega | ((try simp only [World.size_alloc, World.size_setCell, World.size_drew, size_put]); omega) | (simp; done)))) (by (first | omega | ((try simp only [World.size_alloc, World.size_setCell, World.size_drew, size_put]); omega))) hb; clear hb)
        go_roundw
        case rel => exact ⟨k + 1, by omega, by go_num, HE, by go_light; (repeat' (first | (with_reducible exact Below.refl _ _) | (with_reducible exact Nat.le_refl _) | (with_reducible assumption) | (with_reducible refine below_step ?_ ?_ hr) | (with_reducible refine below_over ?_ ?_ _) | (with_reducible refine Below.alloc ?_ ?_ _) | (with_reducible refine Below.setCell ?_ ?_ _) | (with_reducible refine below_put ?_ ?_ _) | (with_reducible refine Below.drew ?_) | (with_reducible refine below_drewN_ ?_ _) | (with_reducible refine le_drewN ?_ _) | (with_reducible refine over_le _ _ _ ?_) | (with_reducible refine le_alloc ?_ _) | (with_reducible refine le_setCell ?_ _ _) | (with_reducible refine le_put ?_ _ _) | (with_reducible refine le_drew ?_) | dsimp only | omega | ((try simp only [World.size_alloc, World.size_setCell, World.size_drew, size_put]); omega) | (simp; done)))⟩
        case measure => (simp [intOf] <;> omega)
      · have HE : Hid (V = (k : Int)) := by show _ = _; rw [← Hl.out, Hx.out, idxM, if_pos hh]
        have Hc := Lib.hid (fun w' (h : Below w.heap.size w w') => hh ▸ bla_find1 ⟨mid, slide, by_, state, since, fr, till⟩ id B w' ((h.block _ hlt).trans HB.out))
        clear hh
        go_wp2_with (go_at_call 56; refine (Hc.out _ (by (repeat' (first | (with_reducible exact Below.refl _ _) | (with_reducible exact Nat.le_refl _) | (with_reducible assumption) | (with_reducible refine below_step ?_ ?_ hr) | (with_reducible refine below_over ?_ ?_ _) | (with_reducible refine Below.alloc ?_ ?_ _) | (with_reducible refine Below.setCell ?_ ?_ _) | (with_reducible refine below_put ?_ ?_ _) | (with_reducible refine Below.drew ?_) | (with_reducible refine below_drewN_ ?_ _) | (with_reducible refine le_drewN ?_ _) | (with_reducible refine over_le _ _ _ ?_) | (with_reducible refine le_alloc ?_ _) | (with_reducible refine le_setCell ?_ _ _) | (with_reducible refine le_put ?_ _ _) | (with_reducible refine le_drew ?_) | dsimp only | omega | ((try simp only [World.size_alloc, World.size_setCell, World.size_drew, size_put]); omega) | (simp; done))))).mono ?_; rintro e w1 hg; obtain ⟨rfl, hb⟩ := hg.below; clear hg; have hz := hb.size; (try simp only [World.size_alloc, World.size_setCell, World.size_drew, size_put] at hz); have hB : Below w.heap.size w w1 := below_step (by (repeat' (first | (with_reducible exact Below.refl _ _) | (with_reducible exact Nat.le_refl _) | (with_reducible assumption) | (with_reducible refine below_step ?_ ?_ hr) | (with_reducible refine below_over ?_ ?_ _) | (with_reducible refine Below.alloc ?_ ?_ _) | (with_reducible refine Below.setCell ?_ ?_ _) | (with_reducible refine below_put ?_ ?_ _) | (with_reducible refine Below.drew ?_) | (with_reducible refine below_drewN_ ?_ _) | (with_reducible refine le_drewN ?_ _) | (with_reducible refine over_le _ _ _ ?_) | (with_reducible refine le_alloc ?_ _) | (with_reducible refine le_setCell ?_ _ _) | (with_reducible refine le_put ?_ _ _) | (with_reducible refine le_drew ?_) | dsimp only | omega | ((try simp only [World.size_alloc, World.size_setCell, World.size_drew, size_put]); omega) | (simp; done)))) (by (first | omega | ((try simp only [World.size_alloc, World.size_setCell, World.size_drew, size_put]); omega))) hb; clear hb)
        go_ret
        exact gives_of (ret_int HE.out.symm) (by go_light; (repeat' (first | (with_reducible exact Below.refl _ _) | (with_reducible exact Nat.le_refl _) | (with_reducible assumption) | (with_reducible refine below_step ?_ ?_ hr) | (with_reducible refine below_over ?_ ?_ _) | (with_reducible refine Below.alloc ?_ ?_ _) | (with_reducible refine Below.setCell ?_ ?_ _) | (with_reducible refine below_put ?_ ?_ _) | (with_reducible refine Below.drew ?_) | (with_reducible refine below_drewN_ ?_ _) | (with_reducible refine le_drewN ?_ _) | (with_reducible refine over_le _ _ _ ?_) | (with_reducible refine le_alloc ?_ _) | (with_reducible refine le_setCell ?_ _ _) | (with_reducible refine le_put ?_ _ _) | (with_reducible refine le_drew ?_) | dsimp only | omega | ((try simp only [World.size_alloc, World.size_setCell, World.size_drew, size_put]); omega) | (simp; done))))
    · have HE : Hid (V = -1) := by show _ = _; rw [← Hl.out, Hs.out.done_ hlk]; rfl
      go_wp2_with fail
      go_ret
      exact gives_of (ret_int HE.out.symm) (by go_light; (repeat' (first | (with_reducible exact Below.refl _ _) | (with_reducible exact Nat.le_refl _) | (with_reducible assumption) | (with_reducible refine below_step ?_ ?_ hr) | (with_reducible refine below_over ?_ ?_ _) | (with_reducible refine Below.alloc ?_ ?_ _) | (with_reducible refine Below.setCell ?_ ?_ _) | (with_reducible refine below_put ?_ ?_ _) | (with_reducible refine Below.drew ?_) | (with_reducible refine below_drewN_ ?_ _) | (with_reducible refine le_drewN ?_ _) | (with_reducible refine over_le _ _ _ ?_) | (with_reducible refine le_alloc ?_ _) | (with_reducible refine le_setCell ?_ _ _) | (with_reducible refine le_put ?_ _ _) | (with_reducible refine le_drew ?_) | dsimp only | omega | ((try simp only [World.size_alloc, World.size_setCell, World.size_drew, size_put]); omega) | (simp; done))))
set_option maxRecDepth 100000 in
set_option maxHeartbeats 800000 in
theorem bla_find (s : Sl) (l : List MS) (id : Int) (w : World) (hs : Rd w MS.enc s l) : Calls Try.prog 36 #[s.val, .int .i64 id] w (Gives (.int .i64 (idxM id 0 l)) w) := by
  have Hc := Lib.hid (fun (B : Nat) (w' : World) (h : Below w.heap.size w w') hB => index_ms s l id B w' hB (hs.toW h))
  obtain ⟨A, n, c⟩ := s
  clear hs
  generalize idxM id 0 l = V at Hc ⊢
  simp only [Sl.val, idV] at Hc ⊢
  have hmf : ∀ (fn : Fn) (first cap : Array Value) (w : World), (Instr.makeFunc fn first cap).run Try.prog w = .ok (.func fn first cap) w := fun _ _ _ _ => rfl
  (go_enter Try.func36, Try.ntmps36; try dsimp only [List.append])
  go_upto_region 1 with fail
  refine wp_letter (fun w1 hb => ?_)
  have hz := hb.size
  (try simp only [World.size_alloc, World.size_setCell, World.size_drew, size_put] at hz)
  have hB : Below w.heap.size w w1 := below_step (by (repeat' (first | (with_reducible exact Below.refl _ _) | (with_reducible exact Nat.le_refl _) | (with_reducible assumption) | (with_reducible refine below_step ?_ ?_ hr) | (with_reducible refine below_over ?_ ?_ _) | (with_reducible refine Below.alloc ?_ ?_ _) | (with_reducible refine Below.setCell ?_ ?_ _) | (with_reducible refine below_put ?_ ?_ _) | (with_reducible refine Below.drew ?_) | (with_reducible refine below_drewN_ ?_ _) | (with_reducible refine le_drewN ?_ _) | (with_reducible refine over_le _ _ _ ?_) | (with_reducible refine le_alloc ?_ _) | (with_reducible refine le_setCell ?_ _ _) | (with_reducible refine le_put ?_ _ _) | (with_reducible refine le_drew ?_) | dsimp only | omega | ((try simp only [World.size_alloc, World.size_setCell, World.size_drew, size_put]); omega) | (simp; done)))) (by (first | omega | ((try simp only [World.size_alloc, World.size_setCell, World.size_drew, size_put]); omega))) hb
  have Q' : w1.heap[w.heap.size]? = _ := hb.block (w.heap.size) (by (first | omega | ((try simp only [World.size_alloc, World.size_setCell, World.size_drew, size_put]); omega)))
  simp only [alloc_block_if, put_block_if, over_block_if, set_block_if, setObj_cells, drew_block, drewN_block, Option.map_some, List.setIfInBounds_toArray, List.set_cons_zero, List.set_cons_succ, World.size_alloc, World.size_setCell, size_put, World.size_drew, if_true, if_false, ↓IntWalk.iteOmega] at Q'
  have Q_0 := Q'
  clear Q'
  have q_0 := cell_of_block Q_0
  clear hb
  go_wp2_with (go_at_call 55; refine (Hc.out _ _ (by (repeat' (first | (with_reducible exact Below.refl _ _) | (with_reducible exact Nat.le_refl _) | (with_reducible assumption) | (with_reducible refine below_step ?_ ?_ hr) | (with_reducible refine below_over ?_ ?_ _) | (with_reducible refine Below.alloc ?_ ?_ _) | (with_reducible refine Below.setCell ?_ ?_ _) | (with_reducible refine below_put ?_ ?_ _) | (with_reducible refine Below.drew ?_) | (with_reducible refine below_drewN_ ?_ _) | (with_reducible refine le_drewN ?_ _) | (with_reducible refine over_le _ _ _ ?_) | (with_reducible refine le_alloc ?_ _) | (with_reducible refine le_setCell ?_ _ _) | (with_reducible refine le_put ?_ _ _) | (with_reducible refine le_drew ?_) | dsimp only | omega | ((try simp only [World.size_alloc, World.size_setCell, World.size_drew, size_put]); omega) | (simp; done)))) Q_0).mono ?_; rintro e w2 hg; obtain ⟨rfl, hb⟩ := hg.below; clear hg; have hz := hb.size; (try simp only [World.size_alloc, World.size_setCell, World.size_drew, size_put] at hz); have hB : Below w.heap.size w w2 := below_step (by (repeat' (first | (with_reducible exact Below.refl _ _) | (with_reducible exact Nat.le_refl _) | (with_reducible assumption) | (with_reducible refine below_step ?_ ?_ hr) | (with_reducible refine below_over ?_ ?_ _) | (with_reducible refine Below.alloc ?_ ?_ _) | (with_reducible refine Below.setCell ?_ ?_ _) | (with_reducible refine below_put ?_ ?_ _) | (with_reducible refine Below.drew ?_) | (with_reducible refine below_drewN_ ?_ _) | (with_reducible refine le_drewN ?_ _) | (with_reducible refine over_le _ _ _ ?_) | (with_reducible refine le_alloc ?_ _) | (with_reducible refine le_setCell ?_ _ _) | (with_reducible refine le_put ?_ _ _) | (with_reducible refine le_drew ?_) | dsimp only | omega | ((try simp only [World.size_alloc, World.size_setCell, World.size_drew, size_put]); omega) | (simp; done)))) (by (first | omega | ((try simp only [World.size_alloc, World.size_setCell, World.size_drew, size_put]); omega))) hb; clear hb)
  go_ret
  exact gives_of rfl (by go_light; (repeat' (first | (with_reducible exact Below.refl _ _) | (with_reducible exact Nat.le_refl _) | (with_reducible assumption) | (with_reducible refine below_step ?_ ?_ hr) | (with_reducible refine below_over ?_ ?_ _) | (with_reducible refine Below.alloc ?_ ?_ _) | (with_reducible refine Below.setCell ?_ ?_ _) | (with_reducible refine below_put ?_ ?_ _) | (with_reducible refine Below.drew ?_) | (with_reducible refine below_drewN_ ?_ _) | (with_reducible refine le_drewN ?_ _) | (with_reducible refine over_le _ _ _ ?_) | (with_reducible refine le_alloc ?_ _) | (with_reducible refine le_setCell ?_ _ _) | (with_reducible refine le_put ?_ _ _) | (with_reducible refine le_drew ?_) | dsimp only | omega | ((try simp only [World.size_alloc, World.size_setCell, World.size_drew, size_put]); omega) | (simp; done))))
set_option maxRecDepth 100000 in
set_option maxHeartbeats 1600000 in
theorem ref51_index (s : Sl) (l : List MS) (id : Int) (w : World) (hs : Rd w MS.enc s l) : Calls Try.prog 39 #[s.val, .int .i64 id] w (Gives (.int .i64 (idxM id 0 l)) w) := by
  obtain ⟨A, n, c⟩ := s
  have Hs := Lib.hid hs
  have hmax : n ≤ 9223372036854775807 := Hs.out.bound
  clear hs
  generalize hV : idxM id 0 l = V
  have HV := Lib.hid hV
  clear hV
  simp only [Sl.val]
  (go_enter Try.func39, Try.ntmps39; try dsimp only [List.append])
  go_wp2_with fail
  go_loopw [5] (fun i wr => ∃ k : Nat, k ≤ n ∧ i = .int .i64 k ∧ Hid (idxM id k (l.drop k) = V) ∧ Below w.heap.size w wr) (fun i _ => n - (intOf i).toNat)
  case atStart => exact ⟨0, Nat.zero_le _, rfl, HV, Below.refl _ _⟩
  case round =>
    obtain ⟨k, hk, rfl, Hl, hBw⟩ := hrel
    have hzr := hBw.size
    by_cases hlk : k < n
    · obtain ⟨b, off, x, rfl, hbw, Hx, -, hc0, -⟩ := Hs.out.ms hlk
      have e0 := (hBw.cell (p := ⟨b, _, none⟩) hbw).trans hc0
      clear hc0
      cases hh : (x.id == id)
      · have HE : Hid (idxM id ((k + 1 : Nat) : Int) (l.drop (k + 1)) = V) := by show _ = _; rw [← Hl.out, Hx.out, idxM, if_neg (by rw [hh]; simp)]; simp
        go_wp2_with fail
        go_roundw
        case rel => exact ⟨k + 1, by omega, by go_num, HE, by go_light; (repeat' (first | (with_reducible exact Below.refl _ _) | (with_reducible exact Nat.le_refl _) | (with_reducible assumption) | (with_reducible refine below_step ?_ ?_ hr) | (with_reducible refine below_over ?_ ?_ _) | (with_reducible refine Below.alloc ?_ ?_ _) | (with_reducible refine Below.setCell ?_ ?_ _) | (with_reducible refine below_put ?_ ?_ _) | (with_reducible refine Below.drew ?_) | (with_reducible refine below_drewN_ ?_ _) | (with_reducible refine le_drewN ?_ _) | (with_reducible refine over_le _ _ _ ?_) | (with_reducible refine le_alloc ?_ _) | (with_reducible refine le_setCell ?_ _ _) | (with_reducible refine le_put ?_ _ _) | (with_reducible refine le_drew ?_) | dsimp only | omega | ((try simp only [World.size_alloc, World.size_setCell, World.size_drew, size_put]); omega) | (simp; done)))⟩
        case measure => (simp [intOf] <;> omega)
      · have HE : Hid (V = (k : Int)) := by show _ = _; rw [← Hl.out, Hx.out, idxM, if_pos hh]
        go_wp2_with fail
        go_ret
        exact gives_of (ret_int HE.out.symm) (by go_light; (repeat' (first | (with_reducible exact Below.refl _ _) | (with_reducible exact Nat.le_refl _) | (with_reducible assumption) | (with_reducible refine below_step ?_ ?_ hr) | (with_reducible refine below_over ?_ ?_ _) | (with_reducible refine Below.alloc ?_ ?_ _) | (with_reducible refine Below.setCell ?_ ?_ _) | (with_reducible refine below_put ?_ ?_ _) | (with_reducible refine Below.drew ?_) | (with_reducible refine below_drewN_ ?_ _) | (with_reducible refine le_drewN ?_ _) | (with_reducible refine over_le _ _ _ ?_) | (with_reducible refine le_alloc ?_ _) | (with_reducible refine le_setCell ?_ _ _) | (with_reducible refine le_put ?_ _ _) | (with_reducible refine le_drew ?_) | dsimp only | omega | ((try simp only [World.size_alloc, World.size_setCell, World.size_drew, size_put]); omega) | (simp; done))))
    · have HE : Hid (V = -1) := by show _ = _; rw [← Hl.out, Hs.out.done_ hlk]; rfl
      go_wp2_with fail
      go_ret
      exact gives_of (ret_int HE.out.symm) (by go_light; (repeat' (first | (with_reducible exact Below.refl _ _) | (with_reducible exact Nat.le_refl _) | (with_reducible assumption) | (with_reducible refine below_step ?_ ?_ hr) | (with_reducible refine below_over ?_ ?_ _) | (with_reducible refine Below.alloc ?_ ?_ _) | (with_reducible refine Below.setCell ?_ ?_ _) | (with_reducible refine below_put ?_ ?_ _) | (with_reducible refine Below.drew ?_) | (with_reducible refine below_drewN_ ?_ _) | (with_reducible refine le_drewN ?_ _) | (with_reducible refine over_le _ _ _ ?_) | (with_reducible refine le_alloc ?_ _) | (with_reducible refine le_setCell ?_ _ _) | (with_reducible refine le_put ?_ _ _) | (with_reducible refine le_drew ?_) | dsimp only | omega | ((try simp only [World.size_alloc, World.size_setCell, World.size_drew, size_put]); omega) | (simp; done))))
set_option maxRecDepth 100000 in
set_option maxHeartbeats 1600000 in
theorem ref51_taken (s : Sl) (l : List MS) (slide : Int) (w : World) (hs : Rd w MS.enc s l) : Calls Try.prog 41 #[s.val, .int .i64 slide] w (Gives (.bool (takenM slide l)) w) := by
  obtain ⟨A, n, c⟩ := s
  have Hs := Lib.hid hs
  have hmax : n ≤ 9223372036854775807 := Hs.out.bound
  clear hs
  generalize hV : takenM slide l = V
  have HV := Lib.hid hV
  clear hV
  simp only [Sl.val]
  (go_enter Try.func41, Try.ntmps41; try dsimp only [List.append])
  go_wp2_with fail
  go_loopw [5] (fun i wr => ∃ k : Nat, k ≤ n ∧ i = .int .i64 k ∧ Hid (takenM slide (l.drop k) = V) ∧ Below w.heap.size w wr) (fun i _ => n - (intOf i).toNat)
  case atStart => exact ⟨0, Nat.zero_le _, rfl, HV, Below.refl _ _⟩
  case round =>
    obtain ⟨k, hk, rfl, Hl, hBr⟩ := hrel
    have hzr := hBr.size
    by_cases hlk : k < n
    · obtain ⟨b, off, ⟨mid, mslide, by_, state, since, fr, till⟩, rfl, hbw, Hx, -, hc0, hc1, hc2, hc3, hc4, hc5, hc6⟩ := Hs.out.ms hlk
      have e0 := (hBr.cell (p := ⟨b, _, none⟩) hbw).trans hc0
      have e1 := (hBr.cell (p := ⟨b, _, none⟩) hbw).trans hc1
      have e2 := (hBr.cell (p := ⟨b, _, none⟩) hbw).trans hc2
      have e3 := (hBr.cell (p := ⟨b, _, none⟩) hbw).trans hc3
      have e4 := (hBr.cell (p := ⟨b, _, none⟩) hbw).trans hc4
      have e5 := (hBr.cell (p := ⟨b, _, none⟩) hbw).trans hc5
      have e6 := (hBr.cell (p := ⟨b, _, none⟩) hbw).trans hc6
      have Hc := Lib.hid (fun w' => ref51_open ⟨mid, mslide, by_, state, since, fr, till⟩ w')
      obtain ⟨O, hO⟩ : ∃ O, O = openM ⟨mid, mslide, by_, state, since, fr, till⟩ := ⟨_, rfl⟩
      have HO := Lib.hid hO
      rw [← hO] at Hc
      clear hO
      cases O
      · have HE : Hid (takenM slide (l.drop (k + 1)) = V) := by show _ = _; rw [← Hl.out, Hx.out, takenM, ← HO.out, if_neg (by simp)]
        go_wp2_with (go_at_call 40; refine (Hc.out _).mono ?_; rintro e w1 hg; obtain ⟨rfl, hb⟩ := hg.below; clear hg; have hz := hb.size; (try simp only [World.size_alloc, World.size_setCell, World.size_drew, size_put] at hz); have hB : Below w.heap.size w w1 := below_step (by (repeat' (first | (with_reducible exact Below.refl _ _) | (with_reducible exact Nat.le_refl _) | (with_reducible assumption) | (with_reducible refine below_step ?_ ?_ hr) | (with_reducible refine below_over ?_ ?_ _) | (with_reducible refine Below.alloc ?_ ?_ _) | (with_reducible refine Below.setCell ?_ ?_ _) | (with_reducible refine below_put ?_ ?_ _) | (with_reducible refine Below.drew ?_) | (with_reducible refine below_drewN_ ?_ _) | (with_reducible refine le_drewN ?_ _) | (with_reducible refine over_le _ _ _ ?_) | (with_reducible refine le_alloc ?_ _) | (with_reducible refine le_setCell ?_ _ _) | (with_reducible refine le_put ?_ _ _) | (with_reducible refine le_drew ?_) | dsimp only | omega | ((try simp only [World.size_alloc, World.size_setCell, World.size_drew, size_put]); omega) | (simp; done)))) (by (first | omega | ((try simp only [World.size_alloc, World.size_setCell, World.size_drew, size_put]); omega))) hb; clear hb)
        go_roundw
        case rel => exact ⟨k + 1, by omega, by go_num, HE, by go_light; (repeat' (first | (with_reducible exact Below.refl _ _) | (with_reducible exact Nat.le_refl _) | (with_reducible assumption) | (with_reducible refine below_step ?_ ?_ hr) | (with_reducible refine below_over ?_ ?_ _) | (with_reducible refine Below.alloc ?_ ?_ _) | (with_reducible refine Below.setCell ?_ ?_ _) | (with_reducible refine below_put ?_ ?_ _) | (with_reducible refine Below.drew ?_) | (with_reducible refine below_drewN_ ?_ _) | (with_reducible refine le_drewN ?_ _) | (with_reducible refine over_le _ _ _ ?_) | (with_reducible refine le_alloc ?_ _) | (with_reducible refine le_setCell ?_ _ _) | (with_reducible refine le_put ?_ _ _) | (with_reducible refine le_drew ?_) | dsimp only | omega | ((try simp only [World.size_alloc, World.size_setCell, World.size_drew, size_put]); omega) | (simp; done)))⟩
        case measure => (simp [intOf] <;> omega)
      · cases hh : (mslide == slide)
        · have HE : Hid (takenM slide (l.drop (k + 1)) = V) := by show _ = _; rw [← Hl.out, Hx.out, takenM, ← HO.out, if_neg (by simp [hh])]
          go_wp2_with ((go_at_call 40; refine (Hc.out _).mono ?_; rintro e w1 hg; obtain ⟨rfl, hb⟩ := hg.below; clear hg; have hz := hb.size; (try simp only [World.size_alloc, World.size_setCell, World.size_drew, size_put] at hz); have hB : Below wr.heap.size wr w1 := below_step (by (repeat' (first | (with_reducible exact Below.refl _ _) | (with_reducible exact Nat.le_refl _) | (with_reducible assumption) | (with_reducible refine below_step ?_ ?_ hr) | (with_reducible refine below_over ?_ ?_ _) | (with_reducible refine Below.alloc ?_ ?_ _) | (with_reducible refine Below.setCell ?_ ?_ _) | (with_reducible refine below_put ?_ ?_ _) | (with_reducible refine Below.drew ?_) | (with_reducible refine below_drewN_ ?_ _) | (with_reducible refine le_drewN ?_ _) | (with_reducible refine over_le _ _ _ ?_) | (with_reducible refine le_alloc ?_ _) | (with_reducible refine le_setCell ?_ _ _) | (with_reducible refine le_put ?_ _ _) | (with_reducible refine le_drew ?_) | dsimp only | omega | ((try simp only [World.size_alloc, World.size_setCell, World.size_drew, size_put]); omega) | (simp; done)))) (by (first | omega | ((try simp only [World.size_alloc, World.size_setCell, World.size_drew, size_put]); omega))) hb; clear hb); have e1 := (hB.cell (p := ⟨b, _, none⟩) (by dsimp only; omega)).trans e1; have hBr1 : Below w.heap.size w w1 := hBr.trans (hB.mono hzr))
          go_roundw
          case rel => exact ⟨k + 1, by omega, by go_num, HE, by go_light; (repeat' (first | (with_reducible exact Below.refl _ _) | (with_reducible exact Nat.le_refl _) | (with_reducible assumption) | (with_reducible refine below_step ?_ ?_ hr) | (with_reducible refine below_over ?_ ?_ _) | (with_reducible refine Below.alloc ?_ ?_ _) | (with_reducible refine Below.setCell ?_ ?_ _) | (with_reducible refine below_put ?_ ?_ _) | (with_reducible refine Below.drew ?_) | (with_reducible refine below_drewN_ ?_ _) | (with_reducible refine le_drewN ?_ _) | (with_reducible refine over_le _ _ _ ?_) | (with_reducible refine le_alloc ?_ _) | (with_reducible refine le_setCell ?_ _ _) | (with_reducible refine le_put ?_ _ _) | (with_reducible refine le_drew ?_) | dsimp only | omega | ((try simp only [World.size_alloc, World.size_setCell, World.size_drew, size_put]); omega) | (simp; done)))⟩
          case measure => (simp [intOf] <;> omega)
        · have HE : Hid (V = true) := by show _ = _; rw [← Hl.out, Hx.out, takenM, ← HO.out, if_pos (by simpa using hh)]
          go_wp2_with ((go_at_call 40; refine (Hc.out _).mono ?_; rintro e w1 hg; obtain ⟨rfl, hb⟩ := hg.below; clear hg; have hz := hb.size; (try simp only [World.size_alloc, World.size_setCell, World.size_drew, size_put] at hz); have hB : Below wr.heap.size wr w1 := below_step (by (repeat' (first | (with_reducible exact Below.refl _ _) | (with_reducible exact Nat.le_refl _) | (with_reducible assumption) | (with_reducible refine below_step ?_ ?_ hr) | (with_reducible refine below_over ?_ ?_ _) | (with_reducible refine Below.alloc ?_ ?_ _) | (with_reducible refine Below.setCell ?_ ?_ _) | (with_reducible refine below_put ?_ ?_ _) | (with_reducible refine Below.drew ?_) | (with_reducible refine below_drewN_ ?_ _) | (with_reducible refine le_drewN ?_ _) | (with_reducible refine over_le _ _ _ ?_) | (with_reducible refine le_alloc ?_ _) | (with_reducible refine le_setCell ?_ _ _) | (with_reducible refine le_put ?_ _ _) | (with_reducible refine le_drew ?_) | dsimp only | omega | ((try simp only [World.size_alloc, World.size_setCell, World.size_drew, size_put]); omega) | (simp; done)))) (by (first | omega | ((try simp only [World.size_alloc, World.size_setCell, World.size_drew, size_put]); omega))) hb; clear hb); have e1 := (hB.cell (p := ⟨b, _, none⟩) (by dsimp only; omega)).trans e1; have hBr1 : Below w.heap.size w w1 := hBr.trans (hB.mono hzr))
          go_ret
          exact gives_of (ret_bool HE.out.symm) (by go_light; (repeat' (first | (with_reducible exact Below.refl _ _) | (with_reducible exact Nat.le_refl _) | (with_reducible assumption) | (with_reducible refine below_step ?_ ?_ hr) | (with_reducible refine below_over ?_ ?_ _) | (with_reducible refine Below.alloc ?_ ?_ _) | (with_reducible refine Below.setCell ?_ ?_ _) | (with_reducible refine below_put ?_ ?_ _) | (with_reducible refine Below.drew ?_) | (with_reducible refine below_drewN_ ?_ _) | (with_reducible refine le_drewN ?_ _) | (with_reducible refine over_le _ _ _ ?_) | (with_reducible refine le_alloc ?_ _) | (with_reducible refine le_setCell ?_ _ _) | (with_reducible refine le_put ?_ _ _) | (with_reducible refine le_drew ?_) | dsimp only | omega | ((try simp only [World.size_alloc, World.size_setCell, World.size_drew, size_put]); omega) | (simp; done))))
    · have HE : Hid (V = false) := by show _ = _; rw [← Hl.out, Hs.out.done_ hlk]; rfl
      go_wp2_with fail
      go_ret
      exact gives_of (ret_bool HE.out.symm) (by go_light; (repeat' (first | (with_reducible exact Below.refl _ _) | (with_reducible exact Nat.le_refl _) | (with_reducible assumption) | (with_reducible refine below_step ?_ ?_ hr) | (with_reducible refine below_over ?_ ?_ _) | (with_reducible refine Below.alloc ?_ ?_ _) | (with_reducible refine Below.setCell ?_ ?_ _) | (with_reducible refine below_put ?_ ?_ _) | (with_reducible refine Below.drew ?_) | (with_reducible refine below_drewN_ ?_ _) | (with_reducible refine le_drewN ?_ _) | (with_reducible refine over_le _ _ _ ?_) | (with_reducible refine le_alloc ?_ _) | (with_reducible refine le_setCell ?_ _ _) | (with_reducible refine le_put ?_ _ _) | (with_reducible refine le_drew ?_) | dsimp only | omega | ((try simp only [World.size_alloc, World.size_setCell, World.size_drew, size_put]); omega) | (simp; done))))
def OwnMPost (xs : List MS) (w : World) (e : Ending) (w' : World) : Prop := ∃ v : Sl, e = .returned v.val ∧ Below w.heap.size w w' ∧ OwnM w' w.heap.size v xs
set_option maxRecDepth 100000 in
set_option maxHeartbeats 1600000 in
theorem clone_ms (s : Sl) (xs : List MS) (w : World) (hr : Rd w MS.enc s xs) (h1000 : s.n ≤ 1000) : Calls Try.prog 42 #[s.val] w (OwnMPost xs w) := by
  obtain ⟨A, n, c⟩ := s
  have Hr := Lib.hid hr
  have hn : Hid (xs.length = n) := hr.len
  dsimp only at h1000
  clear hr
  simp only [Sl.val]
  have qN : ∀ (w : World) (a : Option Addr) (n c : Nat), (binOp .eql 22 (.slice a n c) (.slice none 0 0)).run Try.prog w = .ok (.bool a.isNone) w := fun w a n c => Lib.run_eql_slice_nil w _ _ a n c 0 0 Try.underlying22
  cases A with
  | none =>
    have hx : xs = [] := by
      have h0 : n = 0 := by
        rcases Nat.eq_zero_or_pos n with h | h
        · exact h
        · obtain ⟨b, off, e, _⟩ := Hr.out.cells h
          cases e
      exact List.eq_nil_of_length_eq_zero (by rw [hn.out, h0])
    have Hx := Lib.hid hx
    clear hx
    (go_enter Try.func42, Try.ntmps42; try dsimp only [List.append])
    go_wp2_with fail
    go_ret
    exact ⟨⟨none, 0, 0⟩, rfl, by go_light; (repeat' (first | (with_reducible exact Below.refl _ _) | (with_reducible exact Nat.le_refl _) | (with_reducible assumption) | (with_reducible refine below_step ?_ ?_ hr) | (with_reducible refine below_over ?_ ?_ _) | (with_reducible refine Below.alloc ?_ ?_ _) | (with_reducible refine Below.setCell ?_ ?_ _) | (with_reducible refine below_put ?_ ?_ _) | (with_reducible refine Below.drew ?_) | (with_reducible refine below_drewN_ ?_ _) | (with_reducible refine le_drewN ?_ _) | (with_reducible refine over_le _ _ _ ?_) | (with_reducible refine le_alloc ?_ _) | (with_reducible refine le_setCell ?_ _ _) | (with_reducible refine le_put ?_ _ _) | (with_reducible refine le_drew ?_) | dsimp only | omega | ((try simp only [World.size_alloc, World.size_setCell, World.size_drew, size_put]); omega) | (simp; done))), by go_light; rw [Hx.out]; exact Own.nil_ _ _ _ _ _⟩
  | some a =>
    have qI : (some a : Option Addr).isNone = false := rfl
    (go_enter Try.func42, Try.ntmps42; try dsimp only [List.append])
    go_wp2_with (first
      | (at_builtin
         obtain ⟨i0, hi, hi0, hi1, hi2⟩ := info_parts info_ms
         have h0 : OwnM (w.alloc (.cells #[] 30)) w.heap.size ⟨some ⟨w.heap.size, 0, none⟩, 0, 0⟩ [] := own_empty _ _ _
         go_must (refine wpList_append_rd rfl _ _ _ rfl w.heap.size 30 i0 _ 7 56 Try.underlying22 hi hi0 hi1 hi2 rfl (by decide) (fun _ => rfl) one_ms (s := ⟨some ⟨w.heap.size, 0, none⟩, 0, 0⟩) (y := ⟨some a, n, c⟩) (xs := []) (ys := xs) rfl rfl h0 (Hr.out.toW (by (repeat' (first | (with_reducible exact Below.refl _ _) | (with_reducible exact Nat.le_refl _) | (with_reducible assumption) | (with_reducible refine below_step ?_ ?_ hr) | (with_reducible refine below_over ?_ ?_ _) | (with_reducible refine Below.alloc ?_ ?_ _) | (with_reducible refine Below.setCell ?_ ?_ _) | (with_reducible refine below_put ?_ ?_ _) | (with_reducible refine Below.drew ?_) | (with_reducible refine below_drewN_ ?_ _) | (with_reducible refine le_drewN ?_ _) | (with_reducible refine over_le _ _ _ ?_) | (with_reducible refine le_alloc ?_ _) | (with_reducible refine le_setCell ?_ _ _) | (with_reducible refine le_put ?_ _ _) | (with_reducible refine le_drew ?_) | dsimp only | omega | ((try simp only [World.size_alloc, World.size_setCell, World.size_drew, size_put]); omega) | (simp; done))))) (by simp only [maxLen]; omega) (by dsimp only; omega) (by simp) ?_)
         clear hi hi0 hi1 hi2 i0 h0
         intro v w2 hv hg hpos
         rw [List.nil_append] at hv
         have Hv := Lib.hid hv
         have hB : Below w.heap.size w w2 := Below.grown (by (repeat' (first | (with_reducible exact Below.refl _ _) | (with_reducible exact Nat.le_refl _) | (with_reducible assumption) | (with_reducible refine below_step ?_ ?_ hr) | (with_reducible refine below_over ?_ ?_ _) | (with_reducible refine Below.alloc ?_ ?_ _) | (with_reducible refine Below.setCell ?_ ?_ _) | (with_reducible refine below_put ?_ ?_ _) | (with_reducible refine Below.drew ?_) | (with_reducible refine below_drewN_ ?_ _) | (with_reducible refine le_drewN ?_ _) | (with_reducible refine over_le _ _ _ ?_) | (with_reducible refine le_alloc ?_ _) | (with_reducible refine le_setCell ?_ _ _) | (with_reducible refine le_put ?_ _ _) | (with_reducible refine le_drew ?_) | dsimp only | omega | ((try simp only [World.size_alloc, World.size_setCell, World.size_drew, size_put]); omega) | (simp; done)))) hg (by simp) (fun g hg2 => by cases hg2; exact Nat.le_refl _)
         clear hv hg hpos))
    go_ret
    exact ⟨v, rfl, by go_light; (repeat' (first | (with_reducible exact Below.refl _ _) | (with_reducible exact Nat.le_refl _) | (with_reducible assumption) | (with_reducible refine below_step ?_ ?_ hr) | (with_reducible refine below_over ?_ ?_ _) | (with_reducible refine Below.alloc ?_ ?_ _) | (with_reducible refine Below.setCell ?_ ?_ _) | (with_reducible refine below_put ?_ ?_ _) | (with_reducible refine Below.drew ?_) | (with_reducible refine below_drewN_ ?_ _) | (with_reducible refine le_drewN ?_ _) | (with_reducible refine over_le _ _ _ ?_) | (with_reducible refine le_alloc ?_ _) | (with_reducible refine le_setCell ?_ _ _) | (with_reducible refine le_put ?_ _ _) | (with_reducible refine le_drew ?_) | dsimp only | omega | ((try simp only [World.size_alloc, World.size_setCell, World.size_drew, size_put]); omega) | (simp; done))), Hv⟩
end Go.Proofs.Ythcdnkhgmicpoaa
