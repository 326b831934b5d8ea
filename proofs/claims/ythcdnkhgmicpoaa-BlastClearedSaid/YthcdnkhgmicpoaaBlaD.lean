/- Missions: Active of the reference. -/
import Derived.Test.YthcdnkhgmicpoaaBlaB
namespace Go.Proofs.Ythcdnkhgmicpoaa
set_option linter.unusedSimpArgs false
set_option linter.unusedVariables false
open Go.RowKit
theorem act_open {m : MS} : activeM m = (openM m && (m.state != 0)) := by
  rw [Bool.eq_iff_iff, Bool.and_eq_true, activeM, openM, inB_iff, inB_iff, bne_iff_ne]
  constructor
  · intro h; exact ⟨by omega, by omega⟩
  · intro h; have h1 := h.1; have h2 := h.2; omega
theorem ropen_is {b : Bool} (m : MS) (w : World) (h : openM m = b) : Calls Try.prog 40 #[m.val] w (Gives (.bool b) w) := h ▸ ref51_open m w
set_option maxRecDepth 100000 in
set_option maxHeartbeats 12800000 in
theorem ref51_Active (s : Sl) (l : List MS) (w : World) (hs : Rd w MS.enc s l) (hR : right51 l = 0) : Calls Try.prog 23 #[s.val] w (OwnIPost (sortI (slidesM l)) w) := by
  obtain ⟨A, n, c⟩ := s
  have hn64 : n ≤ 64 := by have h1 := (right_all hR).1; have h2 := hs.len; dsimp only at h2; omega
  have Hs := Lib.hid hs
  have HR := Lib.hid hR
  have Hn : Hid (l.length = n) := hs.len
  have Hmem : Hid (∀ y ∈ sortI (slidesM l), y ≤ 9999) := by
    intro y hy
    obtain ⟨m, e1, e2, e3⟩ := mem_slides.1 (List.mem_mergeSort.1 hy)
    rw [← e3]
    exact (right_good hR m e1).slide.2
  have Hsl : Hid (∀ m ∈ l, 1 ≤ m.slide) := fun m hm => (right_good hR m hm).slide.1
  have HRl : Hid ((sortI (slidesM l)).length ≤ 64) := by
    show _ ≤ _
    have h1 : (sortI (slidesM l)).length = (slidesM l).length := List.length_mergeSort _
    have h2 := slides_len l
    have h3 := Hn.out
    omega
  clear hs hR
  obtain ⟨R, hRe⟩ : ∃ R, R = sortI (slidesM l) := ⟨_, rfl⟩
  have HRe := Lib.hid hRe
  rw [← hRe] at Hmem HRl ⊢
  clear hRe
  simp only [Sl.val]
  (go_enter Try.func23, Try.ntmps23; try dsimp only [List.append])
  go_wp2_with fail
  go_loopw [3, 4] (fun u v wr => ∃ (j : Nat) (last : Int) (o : Sl), j ≤ R.length ∧ u = o.val ∧ v = .int .i64 last ∧ Hid (j = 0 ∧ last = 0 ∨ 0 < j ∧ R[j - 1]? = some last) ∧ Hid (OwnI wr w.heap.size o (R.take j)) ∧ Below w.heap.size w wr) (fun _ v _ => (10000 - intOf v).toNat)
  case atStart => exact ⟨0, 0, ⟨none, 0, 0⟩, Nat.zero_le _, rfl, rfl, .inl ⟨rfl, rfl⟩, Own.nil_ _ _ _ _ _, Below.refl _ _⟩
  case round =>
    obtain ⟨j, last, o, hj, rfl, rfl, Hj, HO, hBo⟩ := hrel
    have hzo := hBo.size
    have Hnx := Lib.hid (nx_next HR.out (by rw [← HRe.out]; exact Hj.out))
    have Hsp := Lib.hid (nx_spec (last := last) (l := l) (acc := 0) Hsl.out (.inl rfl))
    rw [← HRe.out] at Hnx
    obtain ⟨N, hN⟩ : ∃ N, N = nxM last 0 l := ⟨_, rfl⟩
    have HN := Lib.hid hN
    rw [← hN] at Hnx Hsp
    clear hN
    have hon : o.n ≤ 64 := by have h1 := HO.out.len; have h2 := List.length_take_le j R; have h3 := HRl.out; omega
    go_wp2_with fail
    refine wp_letter (fun w2 hb => ?_)
    have hz := hb.size
    (try simp only [World.size_alloc, World.size_setCell, World.size_drew, size_put] at hz)
    have hB : Below wr.heap.size wr w2 := below_step (by (repeat' (first | (with_reducible exact Below.refl _ _) | (with_reducible exact Nat.le_refl _) | (with_reducible assumption) | (with_reducible refine below_step ?_ ?_ hr) | (with_reducible refine below_over ?_ ?_ _) | (with_reducible refine Below.alloc ?_ ?_ _) | (with_reducible refine Below.setCell ?_ ?_ _) | (with_reducible refine below_put ?_ ?_ _) | (with_reducible refine Below.drew ?_) | (with_reducible refine below_drewN_ ?_ _) | (with_reducible refine le_drewN ?_ _) | (with_reducible refine over_le _ _ _ ?_) | (with_reducible refine le_alloc ?_ _) | (with_reducible refine le_setCell ?_ _ _) | (with_reducible refine le_put ?_ _ _) | (with_reducible refine le_drew ?_) | dsimp only | omega | ((try simp only [World.size_alloc, World.size_setCell, World.size_drew, size_put]); omega) | (simp; done)))) (by (first | omega | ((try simp only [World.size_alloc, World.size_setCell, World.size_drew, size_put]); omega))) hb
    have HO := Lib.hid (HO.out.toW (below_step (by (repeat' (first | (with_reducible exact Below.refl _ _) | (with_reducible exact Nat.le_refl _) | (with_reducible assumption) | (with_reducible refine below_step ?_ ?_ hr) | (with_reducible refine below_over ?_ ?_ _) | (with_reducible refine Below.alloc ?_ ?_ _) | (with_reducible refine Below.setCell ?_ ?_ _) | (with_reducible refine below_put ?_ ?_ _) | (with_reducible refine Below.drew ?_) | (with_reducible refine below_drewN_ ?_ _) | (with_reducible refine le_drewN ?_ _) | (with_reducible refine over_le _ _ _ ?_) | (with_reducible refine le_alloc ?_ _) | (with_reducible refine le_setCell ?_ _ _) | (with_reducible refine le_put ?_ _ _) | (with_reducible refine le_drew ?_) | dsimp only | omega | ((try simp only [World.size_alloc, World.size_setCell, World.size_drew, size_put]); omega) | (simp; done)))) (by (first | omega | ((try simp only [World.size_alloc, World.size_setCell, World.size_drew, size_put]); omega))) hb))
    clear hb
    have hBw2 : Below w.heap.size w w2 := hBo.trans (hB.mono hzo)
    go_loopw [5, 6] (fun u i wr => ∃ (k : Nat) (nx : Int), k ≤ n ∧ u = .int .i64 nx ∧ i = .int .i64 k ∧ Hid (nxM last nx (l.drop k) = N) ∧ Below w2.heap.size w2 wr) (fun _ i _ => n - (intOf i).toNat)
    case atStart => exact ⟨0, 0, Nat.zero_le _, rfl, rfl, HN.out.symm, Below.refl _ _⟩
    case round =>
      obtain ⟨k, nx, hk, rfl, rfl, Hl, hBr⟩ := hrel
      have hzr := hBr.size
      have hBw : Below w.heap.size w wr := hBw2.trans (hBr.mono (by omega))
      by_cases hlt : k < n
      · obtain ⟨b, off, ⟨id, slide, by_, state, since, fr, till⟩, rfl, hbw, Hx, -, hc0, hc1, hc2, hc3, hc4, hc5, hc6⟩ := Hs.out.ms hlt
        have e0 := (hBw.cell (p := ⟨b, _, none⟩) hbw).trans hc0
        have e1 := (hBw.cell (p := ⟨b, _, none⟩) hbw).trans hc1
        have e2 := (hBw.cell (p := ⟨b, _, none⟩) hbw).trans hc2
        have e3 := (hBw.cell (p := ⟨b, _, none⟩) hbw).trans hc3
        have e4 := (hBw.cell (p := ⟨b, _, none⟩) hbw).trans hc4
        have e5 := (hBw.cell (p := ⟨b, _, none⟩) hbw).trans hc5
        have e6 := (hBw.cell (p := ⟨b, _, none⟩) hbw).trans hc6
        clear hc0 hc1 hc2 hc3 hc4 hc5 hc6
        have hact := act_open (m := ⟨id, slide, by_, state, since, fr, till⟩)
        dsimp only at hact
        cases hO : openM ⟨id, slide, by_, state, since, fr, till⟩
        · rw [hO, Bool.false_and] at hact
          have hst : nxStep last nx ⟨id, slide, by_, state, since, fr, till⟩ = nx := by unfold nxStep; rw [if_neg (by simp [hact])]
          have HE : Hid (nxM last nx (l.drop (k + 1)) = N) := by show _ = _; rw [← Hl.out, Hx.out, nxM, hst]
          clear hst
          go_wp2_with ((go_at_call 40; refine (ropen_is ⟨id, slide, by_, state, since, fr, till⟩ _ hO).mono ?_; rintro e w3 hg; obtain ⟨rfl, hb⟩ := hg.below; clear hg; have hz := hb.size; (try simp only [World.size_alloc, World.size_setCell, World.size_drew, size_put] at hz); have hB : Below wr.heap.size wr w3 := below_step (by (repeat' (first | (with_reducible exact Below.refl _ _) | (with_reducible exact Nat.le_refl _) | (with_reducible assumption) | (with_reducible refine below_step ?_ ?_ hr) | (with_reducible refine below_over ?_ ?_ _) | (with_reducible refine Below.alloc ?_ ?_ _) | (with_reducible refine Below.setCell ?_ ?_ _) | (with_reducible refine below_put ?_ ?_ _) | (with_reducible refine Below.drew ?_) | (with_reducible refine below_drewN_ ?_ _) | (with_reducible refine le_drewN ?_ _) | (with_reducible refine over_le _ _ _ ?_) | (with_reducible refine le_alloc ?_ _) | (with_reducible refine le_setCell ?_ _ _) | (with_reducible refine le_put ?_ _ _) | (with_reducible refine le_drew ?_) | dsimp only | omega | ((try simp only [World.size_alloc, World.size_setCell, World.size_drew, size_put]); omega) | (simp; done)))) (by (first | omega | ((try simp only [World.size_alloc, World.size_setCell, World.size_drew, size_put]); omega))) hb; clear hb); have e1 := (hB.cell (p := ⟨b, _, none⟩) (by dsimp only; omega)).trans e1; have e3 := (hB.cell (p := ⟨b, _, none⟩) (by dsimp only; omega)).trans e3)
          have hBr3 : Below w2.heap.size w2 w3 := hBr.trans (hB.mono hzr)
          go_roundw
          case rel => exact ⟨k + 1, nx, by omega, rfl, by go_num, HE, by go_light; (repeat' (first | (with_reducible exact Below.refl _ _) | (with_reducible exact Nat.le_refl _) | (with_reducible assumption) | (with_reducible refine below_step ?_ ?_ hr) | (with_reducible refine below_over ?_ ?_ _) | (with_reducible refine Below.alloc ?_ ?_ _) | (with_reducible refine Below.setCell ?_ ?_ _) | (with_reducible refine below_put ?_ ?_ _) | (with_reducible refine Below.drew ?_) | (with_reducible refine below_drewN_ ?_ _) | (with_reducible refine le_drewN ?_ _) | (with_reducible refine over_le _ _ _ ?_) | (with_reducible refine le_alloc ?_ _) | (with_reducible refine le_setCell ?_ _ _) | (with_reducible refine le_put ?_ _ _) | (with_reducible refine le_drew ?_) | dsimp only | omega | ((try simp only [World.size_alloc, World.size_setCell, World.size_drew, size_put]); omega) | (simp; done)))⟩
          case measure => (simp [intOf] <;> omega)
        rw [hO, Bool.true_and] at hact
        cases hst0 : (state != 0)
        · rw [hst0] at hact
          have hst : nxStep last nx ⟨id, slide, by_, state, since, fr, till⟩ = nx := by unfold nxStep; rw [if_neg (by simp [hact])]
          have HE : Hid (nxM last nx (l.drop (k + 1)) = N) := by show _ = _; rw [← Hl.out, Hx.out, nxM, hst]
          clear hst
          go_wp2_with ((go_at_call 40; refine (ropen_is ⟨id, slide, by_, state, since, fr, till⟩ _ hO).mono ?_; rintro e w3 hg; obtain ⟨rfl, hb⟩ := hg.below; clear hg; have hz := hb.size; (try simp only [World.size_alloc, World.size_setCell, World.size_drew, size_put] at hz); have hB : Below wr.heap.size wr w3 := below_step (by (repeat' (first | (with_reducible exact Below.refl _ _) | (with_reducible exact Nat.le_refl _) | (with_reducible assumption) | (with_reducible refine below_step ?_ ?_ hr) | (with_reducible refine below_over ?_ ?_ _) | (with_reducible refine Below.alloc ?_ ?_ _) | (with_reducible refine Below.setCell ?_ ?_ _) | (with_reducible refine below_put ?_ ?_ _) | (with_reducible refine Below.drew ?_) | (with_reducible refine below_drewN_ ?_ _) | (with_reducible refine le_drewN ?_ _) | (with_reducible refine over_le _ _ _ ?_) | (with_reducible refine le_alloc ?_ _) | (with_reducible refine le_setCell ?_ _ _) | (with_reducible refine le_put ?_ _ _) | (with_reducible refine le_drew ?_) | dsimp only | omega | ((try simp only [World.size_alloc, World.size_setCell, World.size_drew, size_put]); omega) | (simp; done)))) (by (first | omega | ((try simp only [World.size_alloc, World.size_setCell, World.size_drew, size_put]); omega))) hb; clear hb); have e1 := (hB.cell (p := ⟨b, _, none⟩) (by dsimp only; omega)).trans e1; have e3 := (hB.cell (p := ⟨b, _, none⟩) (by dsimp only; omega)).trans e3)
          have hBr3 : Below w2.heap.size w2 w3 := hBr.trans (hB.mono hzr)
          go_roundw
          case rel => exact ⟨k + 1, nx, by omega, rfl, by go_num, HE, by go_light; (repeat' (first | (with_reducible exact Below.refl _ _) | (with_reducible exact Nat.le_refl _) | (with_reducible assumption) | (with_reducible refine below_step ?_ ?_ hr) | (with_reducible refine below_over ?_ ?_ _) | (with_reducible refine Below.alloc ?_ ?_ _) | (with_reducible refine Below.setCell ?_ ?_ _) | (with_reducible refine below_put ?_ ?_ _) | (with_reducible refine Below.drew ?_) | (with_reducible refine below_drewN_ ?_ _) | (with_reducible refine le_drewN ?_ _) | (with_reducible refine over_le _ _ _ ?_) | (with_reducible refine le_alloc ?_ _) | (with_reducible refine le_setCell ?_ _ _) | (with_reducible refine le_put ?_ _ _) | (with_reducible refine le_drew ?_) | dsimp only | omega | ((try simp only [World.size_alloc, World.size_setCell, World.size_drew, size_put]); omega) | (simp; done)))⟩
          case measure => (simp [intOf] <;> omega)
        rw [hst0] at hact
        cases hl1 : decide (last < slide)
        · have hl1p : ¬ last < slide := by simpa using hl1
          have hst : nxStep last nx ⟨id, slide, by_, state, since, fr, till⟩ = nx := by unfold nxStep; rw [if_neg (by simp [hact, hl1p])]
          have HE : Hid (nxM last nx (l.drop (k + 1)) = N) := by show _ = _; rw [← Hl.out, Hx.out, nxM, hst]
          clear hst
          go_wp2_with ((go_at_call 40; refine (ropen_is ⟨id, slide, by_, state, since, fr, till⟩ _ hO).mono ?_; rintro e w3 hg; obtain ⟨rfl, hb⟩ := hg.below; clear hg; have hz := hb.size; (try simp only [World.size_alloc, World.size_setCell, World.size_drew, size_put] at hz); have hB : Below wr.heap.size wr w3 := below_step (by (repeat' (first | (with_reducible exact Below.refl _ _) | (with_reducible exact Nat.le_refl _) | (with_reducible assumption) | (with_reducible refine below_step ?_ ?_ hr) | (with_reducible refine below_over ?_ ?_ _) | (with_reducible refine Below.alloc ?_ ?_ _) | (with_reducible refine Below.setCell ?_ ?_ _) | (with_reducible refine below_put ?_ ?_ _) | (with_reducible refine Below.drew ?_) | (with_reducible refine below_drewN_ ?_ _) | (with_reducible refine le_drewN ?_ _) | (with_reducible refine over_le _ _ _ ?_) | (with_reducible refine le_alloc ?_ _) | (with_reducible refine le_setCell ?_ _ _) | (with_reducible refine le_put ?_ _ _) | (with_reducible refine le_drew ?_) | dsimp only | omega | ((try simp only [World.size_alloc, World.size_setCell, World.size_drew, size_put]); omega) | (simp; done)))) (by (first | omega | ((try simp only [World.size_alloc, World.size_setCell, World.size_drew, size_put]); omega))) hb; clear hb); have e1 := (hB.cell (p := ⟨b, _, none⟩) (by dsimp only; omega)).trans e1; have e3 := (hB.cell (p := ⟨b, _, none⟩) (by dsimp only; omega)).trans e3)
          have hBr3 : Below w2.heap.size w2 w3 := hBr.trans (hB.mono hzr)
          go_roundw
          case rel => exact ⟨k + 1, nx, by omega, rfl, by go_num, HE, by go_light; (repeat' (first | (with_reducible exact Below.refl _ _) | (with_reducible exact Nat.le_refl _) | (with_reducible assumption) | (with_reducible refine below_step ?_ ?_ hr) | (with_reducible refine below_over ?_ ?_ _) | (with_reducible refine Below.alloc ?_ ?_ _) | (with_reducible refine Below.setCell ?_ ?_ _) | (with_reducible refine below_put ?_ ?_ _) | (with_reducible refine Below.drew ?_) | (with_reducible refine below_drewN_ ?_ _) | (with_reducible refine le_drewN ?_ _) | (with_reducible refine over_le _ _ _ ?_) | (with_reducible refine le_alloc ?_ _) | (with_reducible refine le_setCell ?_ _ _) | (with_reducible refine le_put ?_ _ _) | (with_reducible refine le_drew ?_) | dsimp only | omega | ((try simp only [World.size_alloc, World.size_setCell, World.size_drew, size_put]); omega) | (simp; done)))⟩
          case measure => (simp [intOf] <;> omega)
        have hl1p : last < slide := by simpa using hl1
        cases hz0 : (nx == 0)
        rotate_left
        · have hz0p : nx = 0 := by simpa using hz0
          have hst : nxStep last nx ⟨id, slide, by_, state, since, fr, till⟩ = slide := by unfold nxStep; rw [if_pos (by simp [hact, hl1p, hz0p])]
          have HE : Hid (nxM last slide (l.drop (k + 1)) = N) := by show _ = _; rw [← Hl.out, Hx.out, nxM, hst]
          clear hst
          go_wp2_with ((go_at_call 40; refine (ropen_is ⟨id, slide, by_, state, since, fr, till⟩ _ hO).mono ?_; rintro e w3 hg; obtain ⟨rfl, hb⟩ := hg.below; clear hg; have hz := hb.size; (try simp only [World.size_alloc, World.size_setCell, World.size_drew, size_put] at hz); have hB : Below wr.heap.size wr w3 := below_step (by (repeat' (first | (with_reducible exact Below.refl _ _) | (with_reducible exact Nat.le_refl _) | (with_reducible assumption) | (with_reducible refine below_step ?_ ?_ hr) | (with_reducible refine below_over ?_ ?_ _) | (with_reducible refine Below.alloc ?_ ?_ _) | (with_reducible refine Below.setCell ?_ ?_ _) | (with_reducible refine below_put ?_ ?_ _) | (with_reducible refine Below.drew ?_) | (with_reducible refine below_drewN_ ?_ _) | (with_reducible refine le_drewN ?_ _) | (with_reducible refine over_le _ _ _ ?_) | (with_reducible refine le_alloc ?_ _) | (with_reducible refine le_setCell ?_ _ _) | (with_reducible refine le_put ?_ _ _) | (with_reducible refine le_drew ?_) | dsimp only | omega | ((try simp only [World.size_alloc, World.size_setCell, World.size_drew, size_put]); omega) | (simp; done)))) (by (first | omega | ((try simp only [World.size_alloc, World.size_setCell, World.size_drew, size_put]); omega))) hb; clear hb); have e1 := (hB.cell (p := ⟨b, _, none⟩) (by dsimp only; omega)).trans e1; have e3 := (hB.cell (p := ⟨b, _, none⟩) (by dsimp only; omega)).trans e3)
          have hBr3 : Below w2.heap.size w2 w3 := hBr.trans (hB.mono hzr)
          go_roundw
          case rel => exact ⟨k + 1, slide, by omega, rfl, by go_num, HE, by go_light; (repeat' (first | (with_reducible exact Below.refl _ _) | (with_reducible exact Nat.le_refl _) | (with_reducible assumption) | (with_reducible refine below_step ?_ ?_ hr) | (with_reducible refine below_over ?_ ?_ _) | (with_reducible refine Below.alloc ?_ ?_ _) | (with_reducible refine Below.setCell ?_ ?_ _) | (with_reducible refine below_put ?_ ?_ _) | (with_reducible refine Below.drew ?_) | (with_reducible refine below_drewN_ ?_ _) | (with_reducible refine le_drewN ?_ _) | (with_reducible refine over_le _ _ _ ?_) | (with_reducible refine le_alloc ?_ _) | (with_reducible refine le_setCell ?_ _ _) | (with_reducible refine le_put ?_ _ _) | (with_reducible refine le_drew ?_) | dsimp only | omega | ((try simp only [World.size_alloc, World.size_setCell, World.size_drew, size_put]); omega) | (simp; done)))⟩
          case measure => (simp [intOf] <;> omega)
        have hz0p : ¬ nx = 0 := by simpa using hz0
        cases hl2 : decide (slide < nx)
        · have hl2p : ¬ slide < nx := by simpa using hl2
          have hst : nxStep last nx ⟨id, slide, by_, state, since, fr, till⟩ = nx := by unfold nxStep; rw [if_neg (by simp [hact, hl1p, hz0p, hl2p])]
          have HE : Hid (nxM last nx (l.drop (k + 1)) = N) := by show _ = _; rw [← Hl.out, Hx.out, nxM, hst]
          clear hst
          go_wp2_with ((go_at_call 40; refine (ropen_is ⟨id, slide, by_, state, since, fr, till⟩ _ hO).mono ?_; rintro e w3 hg; obtain ⟨rfl, hb⟩ := hg.below; clear hg; have hz := hb.size; (try simp only [World.size_alloc, World.size_setCell, World.size_drew, size_put] at hz); have hB : Below wr.heap.size wr w3 := below_step (by (repeat' (first | (with_reducible exact Below.refl _ _) | (with_reducible exact Nat.le_refl _) | (with_reducible assumption) | (with_reducible refine below_step ?_ ?_ hr) | (with_reducible refine below_over ?_ ?_ _) | (with_reducible refine Below.alloc ?_ ?_ _) | (with_reducible refine Below.setCell ?_ ?_ _) | (with_reducible refine below_put ?_ ?_ _) | (with_reducible refine Below.drew ?_) | (with_reducible refine below_drewN_ ?_ _) | (with_reducible refine le_drewN ?_ _) | (with_reducible refine over_le _ _ _ ?_) | (with_reducible refine le_alloc ?_ _) | (with_reducible refine le_setCell ?_ _ _) | (with_reducible refine le_put ?_ _ _) | (with_reducible refine le_drew ?_) | dsimp only | omega | ((try simp only [World.size_alloc, World.size_setCell, World.size_drew, size_put]); omega) | (simp; done)))) (by (first | omega | ((try simp only [World.size_alloc, World.size_setCell, World.size_drew, size_put]); omega))) hb; clear hb); have e1 := (hB.cell (p := ⟨b, _, none⟩) (by dsimp only; omega)).trans e1; have e3 := (hB.cell (p := ⟨b, _, none⟩) (by dsimp only; omega)).trans e3)
          have hBr3 : Below w2.heap.size w2 w3 := hBr.trans (hB.mono hzr)
          go_roundw
          case rel => exact ⟨k + 1, nx, by omega, rfl, by go_num, HE, by go_light; (repeat' (first | (with_reducible exact Below.refl _ _) | (with_reducible exact Nat.le_refl _) | (with_reducible assumption) | (with_reducible refine below_step ?_ ?_ hr) | (with_reducible refine below_over ?_ ?_ _) | (with_reducible refine Below.alloc ?_ ?_ _) | (with_reducible refine Below.setCell ?_ ?_ _) | (with_reducible refine below_put ?_ ?_ _) | (with_reducible refine Below.drew ?_) | (with_reducible refine below_drewN_ ?_ _) | (with_reducible refine le_drewN ?_ _) | (with_reducible refine over_le _ _ _ ?_) | (with_reducible refine le_alloc ?_ _) | (with_reducible refine le_setCell ?_ _ _) | (with_reducible refine le_put ?_ _ _) | (with_reducible refine le_drew ?_) | dsimp only | omega | ((try simp only [World.size_alloc, World.size_setCell, World.size_drew, size_put]); omega) | (simp; done)))⟩
          case measure => (simp [intOf] <;> omega)
        · have hl2p : slide < nx := by simpa using hl2
          have hst : nxStep last nx ⟨id, slide, by_, state, since, fr, till⟩ = slide := by unfold nxStep; rw [if_pos (by simp [hact, hl1p, hz0p, hl2p])]
          have HE : Hid (nxM last slide (l.drop (k + 1)) = N) := by show _ = _; rw [← Hl.out, Hx.out, nxM, hst]
          clear hst
          go_wp2_with ((go_at_call 40; refine (ropen_is ⟨id, slide, by_, state, since, fr, till⟩ _ hO).mono ?_; rintro e w3 hg; obtain ⟨rfl, hb⟩ := hg.below; clear hg; have hz := hb.size; (try simp only [World.size_alloc, World.size_setCell, World.size_drew, size_put] at hz); have hB : Below wr.heap.size wr w3 := below_step (by (repeat' (first | (with_reducible exact Below.refl _ _) | (with_reducible exact Nat.le_refl _) | (with_reducible assumption) | (with_reducible refine below_step ?_ ?_ hr) | (with_reducible refine below_over ?_ ?_ _) | (with_reducible refine Below.alloc ?_ ?_ _) | (with_reducible refine Below.setCell ?_ ?_ _) | (with_reducible refine below_put ?_ ?_ _) | (with_reducible refine Below.drew ?_) | (with_reducible refine below_drewN_ ?_ _) | (with_reducible refine le_drewN ?_ _) | (with_reducible refine over_le _ _ _ ?_) | (with_reducible refine le_alloc ?_ _) | (with_reducible refine le_setCell ?_ _ _) | (with_reducible refine le_put ?_ _ _) | (with_reducible refine le_drew ?_) | dsimp only | omega | ((try simp only [World.size_alloc, World.size_setCell, World.size_drew, size_put]); omega) | (simp; done)))) (by (first | omega | ((try simp only [World.size_alloc, World.size_setCell, World.size_drew, size_put]); omega))) hb; clear hb); have e1 := (hB.cell (p := ⟨b, _, none⟩) (by dsimp only; omega)).trans e1; have e3 := (hB.cell (p := ⟨b, _, none⟩) (by dsimp only; omega)).trans e3)
          have hBr3 : Below w2.heap.size w2 w3 := hBr.trans (hB.mono hzr)
          go_roundw
          case rel => exact ⟨k + 1, slide, by omega, rfl, by go_num, HE, by go_light; (repeat' (first | (with_reducible exact Below.refl _ _) | (with_reducible exact Nat.le_refl _) | (with_reducible assumption) | (with_reducible refine below_step ?_ ?_ hr) | (with_reducible refine below_over ?_ ?_ _) | (with_reducible refine Below.alloc ?_ ?_ _) | (with_reducible refine Below.setCell ?_ ?_ _) | (with_reducible refine below_put ?_ ?_ _) | (with_reducible refine Below.drew ?_) | (with_reducible refine below_drewN_ ?_ _) | (with_reducible refine le_drewN ?_ _) | (with_reducible refine over_le _ _ _ ?_) | (with_reducible refine le_alloc ?_ _) | (with_reducible refine le_setCell ?_ _ _) | (with_reducible refine le_put ?_ _ _) | (with_reducible refine le_drew ?_) | dsimp only | omega | ((try simp only [World.size_alloc, World.size_setCell, World.size_drew, size_put]); omega) | (simp; done)))⟩
          case measure => (simp [intOf] <;> omega)
      · have HE : Hid (nx = N) := by show _ = _; rw [← Hl.out, Hs.out.done_ hlt]; rfl
        have HOr := Lib.hid (HO.out.toW hBr)
        cases h0 : (nx == 0)
        rotate_left
        · have hfin : Hid (R.take j = R) := by
            show _ = _
            rcases Hnx.out with ⟨h1, h2⟩ | ⟨h1, h2⟩
            · exact List.take_of_length_le h2
            · exact absurd (by rw [← HE.out]; simpa using h0) h1
          rw [hfin.out] at HOr
          go_wp2_with fail
          go_ret
          exact ⟨o, rfl, by go_light; (repeat' (first | (with_reducible exact Below.refl _ _) | (with_reducible exact Nat.le_refl _) | (with_reducible assumption) | (with_reducible refine below_step ?_ ?_ hr) | (with_reducible refine below_over ?_ ?_ _) | (with_reducible refine Below.alloc ?_ ?_ _) | (with_reducible refine Below.setCell ?_ ?_ _) | (with_reducible refine below_put ?_ ?_ _) | (with_reducible refine Below.drew ?_) | (with_reducible refine below_drewN_ ?_ _) | (with_reducible refine le_drewN ?_ _) | (with_reducible refine over_le _ _ _ ?_) | (with_reducible refine le_alloc ?_ _) | (with_reducible refine le_setCell ?_ _ _) | (with_reducible refine le_put ?_ _ _) | (with_reducible refine le_drew ?_) | dsimp only | omega | ((try simp only [World.size_alloc, World.size_setCell, World.size_drew, size_put]); omega) | (simp; done))), by go_light; exact HOr.out⟩
        · have h0p : ¬ nx = 0 := by simpa using h0
          have hnext : Hid (R[j]? = some nx) := by
            show _ = _
            rcases Hnx.out with ⟨h1, h2⟩ | ⟨h1, h2⟩
            · exact absurd (HE.out.trans h1) h0p
            · rw [h2, HE.out]
          have hls : last < nx := by
            rcases Hsp.out with ⟨h1, -, -⟩ | ⟨h1, h2, -⟩
            · exact absurd (HE.out.trans h1) h0p
            · rw [HE.out]; exact h2
          have hnx9 : nx ≤ 9999 := Hmem.out nx (List.mem_of_getElem? hnext.out)
          have hjl : j < R.length := (List.getElem?_eq_some_iff.1 hnext.out).1
          have HT : Hid (R.take (j + 1) = R.take j ++ [nx]) := by show _ = _; rw [List.take_add_one, hnext.out]; rfl
          clear HO
          go_wp2_with (at_builtin
                       obtain ⟨i0, hi, hi0, hi1, hi2⟩ := info_parts info_int
                       go_must (refine wpList_append_rd rfl _ _ _ rfl w.heap.size 3 i0 _ 1 8 Try.underlying39 hi hi0 hi1 hi2 rfl (by decide) (fun _ => rfl) one_int (s := o) (y := ⟨some ⟨wr.heap.size, 0, none⟩, 1, 1⟩) (xs := R.take j) (ys := [nx]) rfl rfl (HOr.out.alloc' _) (rd_new 1 (fun _ => rfl) [_] rfl rfl rfl (by simp [maxLen])) (by simp only [maxLen]; omega) (by dsimp only; omega) (by simp; omega) ?_)
                       clear hi hi0 hi1 hi2 i0
                       intro o2 w4 hv hg hpos
                       have HO4 := Lib.hid hv
                       have hB4 : Below w.heap.size w w4 := Below.grown (by (repeat' (first | (with_reducible exact Below.refl _ _) | (with_reducible exact Nat.le_refl _) | (with_reducible assumption) | (with_reducible refine below_step ?_ ?_ hr) | (with_reducible refine below_over ?_ ?_ _) | (with_reducible refine Below.alloc ?_ ?_ _) | (with_reducible refine Below.setCell ?_ ?_ _) | (with_reducible refine below_put ?_ ?_ _) | (with_reducible refine Below.drew ?_) | (with_reducible refine below_drewN_ ?_ _) | (with_reducible refine le_drewN ?_ _) | (with_reducible refine over_le _ _ _ ?_) | (with_reducible refine le_alloc ?_ _) | (with_reducible refine le_setCell ?_ _ _) | (with_reducible refine le_put ?_ _ _) | (with_reducible refine le_drew ?_) | dsimp only | omega | ((try simp only [World.size_alloc, World.size_setCell, World.size_drew, size_put]); omega) | (simp; done)))) hg (by simp; omega) (fun g hg2 => by have := (HOr.out.block g hg2).1; omega)
                       clear hv hg hpos)
          go_roundw
          case rel => exact ⟨j + 1, nx, o2, by omega, rfl, rfl, .inr ⟨by omega, by rw [Nat.add_sub_cancel]; exact hnext.out⟩, Lib.hid (by rw [HT.out]; exact HO4.out), hB4⟩
          case measure => (simp [intOf] <;> omega)
end Go.Proofs.Ythcdnkhgmicpoaa
