/- Products: the reference's Own and Find. -/
import Derived.Test.YtfajjgkhanjcfaaGreatPFind
namespace Go.Proofs.YtfajjgkhanjcfaaGreat
set_option linter.unusedSimpArgs false
set_option linter.unusedVariables false
open Go.RowKit
def OwnPost (x : PD) (w : World) (e : Ending) (w' : World) : Prop := Below w.heap.size w w' ∧ ∃ so sh : Sl, e = .returned (x.with_ so sh).val ∧ CopyOf w' w.heap.size so sh x
set_option maxRecDepth 100000 in
set_option maxHeartbeats 3200000 in
theorem ref22_Own (x : PD) (w : World) (hx : x.at_ w) (h40 : x.so.n ≤ 1000 ∧ x.sh.n ≤ 1000) : Calls Tryz.prog 43 #[x.val] w (OwnPost x w) := by
  obtain ⟨xid, xk, xu, xl, xm, ⟨oA, on, oc⟩, ⟨hA, hn, hc⟩, xsf, xst, xp, xo, xh⟩ := x
  have Hx := Lib.hid hx
  obtain ⟨h1, h2⟩ := h40
  dsimp only at h1 h2
  clear hx
  simp only [PD.val]
  (go_enter Tryz.func43, Tryz.ntmps43; try dsimp only [List.append])
  go_wp2_with (first
    | (at_builtin
       obtain ⟨i0, hi, hi0, hi1, hi2⟩ := info_parts info_int
       refine wpList_append_rd rfl _ _ _ rfl w.heap.size 3 i0 _ 1 8 Tryz.underlying23 hi hi0 hi1 hi2 rfl (by decide) (fun _ => rfl) one_int (s := ⟨none, 0, 0⟩) (y := ⟨oA, on, oc⟩) (xs := []) (ys := xo) rfl rfl (Own.nil_ _ _ _ _ _) (Hx.out.ops.toW (by (repeat' (first | (with_reducible exact Below.refl _ _) | (with_reducible exact Nat.le_refl _) | (with_reducible assumption) | (with_reducible refine below_step ?_ ?_ hr) | (with_reducible refine below_over ?_ ?_ _) | (with_reducible refine Below.alloc ?_ ?_ _) | (with_reducible refine Below.setCell ?_ ?_ _) | (with_reducible refine below_put ?_ ?_ _) | (with_reducible refine Below.drew ?_) | (with_reducible refine below_drewN_ ?_ _) | (with_reducible refine le_drewN ?_ _) | (with_reducible refine over_le _ _ _ ?_) | (with_reducible refine le_alloc ?_ _) | (with_reducible refine le_setCell ?_ _ _) | (with_reducible refine le_put ?_ _ _) | (with_reducible refine le_drew ?_) | dsimp only | omega | ((try simp only [World.size_alloc, World.size_setCell, World.size_drew, size_put]); omega) | (simp; done))))) (by simp only [maxLen]; omega) (by dsimp only; omega) (by simp; omega) ?_
       clear hi hi0 hi1 hi2 i0
       intro vo w2 hv hg hpos
       rw [List.nil_append] at hv
       have Hvo := Lib.hid hv
       have hvl : Hid (∀ g, vo.val.ownBlock = some g → w.heap.size + 1 + 1 ≤ g) := fun g hg => by
         rcases hpos with h | h
         · rw [hg] at h; cases h
         · rw [hg] at h; have := Option.some.inj h; simp at this; omega
       have hb := below_grown hg
       clear hv hpos hg
       have hz := hb.size
       (try simp only [World.size_alloc, World.size_setCell, World.size_drew, size_put] at hz)
       have hB : Below w.heap.size w w2 := below_step (by (repeat' (first | (with_reducible exact Below.refl _ _) | (with_reducible exact Nat.le_refl _) | (with_reducible assumption) | (with_reducible refine below_step ?_ ?_ hr) | (with_reducible refine below_over ?_ ?_ _) | (with_reducible refine Below.alloc ?_ ?_ _) | (with_reducible refine Below.setCell ?_ ?_ _) | (with_reducible refine below_put ?_ ?_ _) | (with_reducible refine Below.drew ?_) | (with_reducible refine below_drewN_ ?_ _) | (with_reducible refine le_drewN ?_ _) | (with_reducible refine over_le _ _ _ ?_) | (with_reducible refine le_alloc ?_ _) | (with_reducible refine le_setCell ?_ _ _) | (with_reducible refine le_put ?_ _ _) | (with_reducible refine le_drew ?_) | dsimp only | omega | ((try simp only [World.size_alloc, World.size_setCell, World.size_drew, size_put]); omega) | (simp; done)))) (by (first | omega | ((try simp only [World.size_alloc, World.size_setCell, World.size_drew, size_put]); omega))) hb
       have Q' : w2.heap[w.heap.size]? = _ := hb.block (w.heap.size) (by (first | omega | ((try simp only [World.size_alloc, World.size_setCell, World.size_drew, size_put]); omega)))
       simp only [alloc_block_if, put_block_if, over_block_if, set_block_if, setObj_cells, drew_block, drewN_block, Option.map_some, List.setIfInBounds_toArray, List.set_cons_zero, List.set_cons_succ, World.size_alloc, World.size_setCell, size_put, World.size_drew, if_true, if_false, ↓IntWalk.iteOmega] at Q'
       have Q_0 := Q'
       clear Q'
       have Q' : w2.heap[w.heap.size + 1]? = _ := hb.block (w.heap.size + 1) (by (first | omega | ((try simp only [World.size_alloc, World.size_setCell, World.size_drew, size_put]); omega)))
       simp only [alloc_block_if, put_block_if, over_block_if, set_block_if, setObj_cells, drew_block, drewN_block, Option.map_some, List.setIfInBounds_toArray, List.set_cons_zero, List.set_cons_succ, World.size_alloc, World.size_setCell, size_put, World.size_drew, if_true, if_false, ↓IntWalk.iteOmega] at Q'
       have Q_1 := Q'
       clear Q'
       have L_0 : w.heap.size < w2.heap.size := (by (first | omega | ((try simp only [World.size_alloc, World.size_setCell, World.size_drew, size_put]); omega)))
       have q_1 := cell_of_block Q_1
       clear hb
       rw [← put_self Q_0]
       have hz2 := hz)
    | (at_builtin
       obtain ⟨i0, hi, hi0, hi1, hi2⟩ := info_parts info_hours
       go_must (refine wpList_append_rd rfl _ _ _ rfl w.heap.size 72 i0 _ 3 24 Tryz.underlying52 hi hi0 hi1 hi2 rfl (by decide) (fun _ => rfl) one_hrs (s := ⟨none, 0, 0⟩) (y := ⟨hA, hn, hc⟩) (xs := []) (ys := xh) rfl rfl (Own.nil_ _ _ _ _ _) (Hx.out.hours.toW (by (repeat' (first | (with_reducible exact Below.refl _ _) | (with_reducible exact Nat.le_refl _) | (with_reducible assumption) | (with_reducible refine below_step ?_ ?_ hr) | (with_reducible refine below_over ?_ ?_ _) | (with_reducible refine Below.alloc ?_ ?_ _) | (with_reducible refine Below.setCell ?_ ?_ _) | (with_reducible refine below_put ?_ ?_ _) | (with_reducible refine Below.drew ?_) | (with_reducible refine below_drewN_ ?_ _) | (with_reducible refine le_drewN ?_ _) | (with_reducible refine over_le _ _ _ ?_) | (with_reducible refine le_alloc ?_ _) | (with_reducible refine le_setCell ?_ _ _) | (with_reducible refine le_put ?_ _ _) | (with_reducible refine le_drew ?_) | dsimp only | omega | ((try simp only [World.size_alloc, World.size_setCell, World.size_drew, size_put]); omega) | (simp; done))))) (by simp only [maxLen]; omega) (by dsimp only; omega) (by rw [size_put]; omega) ?_)
       clear hi hi0 hi1 hi2 i0
       intro vh w3 hv hg hpos
       rw [List.nil_append] at hv
       have Hvh := Lib.hid hv
       have hvl2 : Hid (∀ g, vh.val.ownBlock = some g → w.heap.size + 1 + 1 ≤ g) := fun g hg => by
         rcases hpos with h | h
         · rw [hg] at h; cases h
         · rw [hg] at h; have := Option.some.inj h; rw [size_put] at this; omega
       have hb := below_grown hg
       have Hvo3 := Lib.hid ((Hvo.out.put (o := _) L_0 (fun g hg => by have := hvl.out g hg; omega)).toW hb)
       clear hv hpos hg
       have hz := hb.size
       (try simp only [World.size_alloc, World.size_setCell, World.size_drew, size_put] at hz)
       have hB : Below w.heap.size w w3 := below_step (by (repeat' (first | (with_reducible exact Below.refl _ _) | (with_reducible exact Nat.le_refl _) | (with_reducible assumption) | (with_reducible refine below_step ?_ ?_ hr) | (with_reducible refine below_over ?_ ?_ _) | (with_reducible refine Below.alloc ?_ ?_ _) | (with_reducible refine Below.setCell ?_ ?_ _) | (with_reducible refine below_put ?_ ?_ _) | (with_reducible refine Below.drew ?_) | (with_reducible refine below_drewN_ ?_ _) | (with_reducible refine le_drewN ?_ _) | (with_reducible refine over_le _ _ _ ?_) | (with_reducible refine le_alloc ?_ _) | (with_reducible refine le_setCell ?_ _ _) | (with_reducible refine le_put ?_ _ _) | (with_reducible refine le_drew ?_) | dsimp only | omega | ((try simp only [World.size_alloc, World.size_setCell, World.size_drew, size_put]); omega) | (simp; done)))) (by (first | omega | ((try simp only [World.size_alloc, World.size_setCell, World.size_drew, size_put]); omega))) hb
       have Q' : w3.heap[w.heap.size]? = _ := hb.block (w.heap.size) (by (first | omega | ((try simp only [World.size_alloc, World.size_setCell, World.size_drew, size_put]); omega)))
       simp only [alloc_block_if, put_block_if, over_block_if, set_block_if, setObj_cells, drew_block, drewN_block, Option.map_some, List.setIfInBounds_toArray, List.set_cons_zero, List.set_cons_succ, World.size_alloc, World.size_setCell, size_put, World.size_drew, if_true, if_false, ↓IntWalk.iteOmega, L_0, Q_0] at Q'
       clear Q_0
       have Q_0 := Q'
       clear Q'
       have Q' : w3.heap[w.heap.size + 1]? = _ := hb.block (w.heap.size + 1) (by (first | omega | ((try simp only [World.size_alloc, World.size_setCell, World.size_drew, size_put]); omega)))
       simp only [alloc_block_if, put_block_if, over_block_if, set_block_if, setObj_cells, drew_block, drewN_block, Option.map_some, List.setIfInBounds_toArray, List.set_cons_zero, List.set_cons_succ, World.size_alloc, World.size_setCell, size_put, World.size_drew, if_true, if_false, ↓IntWalk.iteOmega, L_0, Q_1] at Q'
       clear Q_1
       have Q_1 := Q'
       clear Q'
       have L_0 : w.heap.size < w3.heap.size := (by (first | omega | ((try simp only [World.size_alloc, World.size_setCell, World.size_drew, size_put]); omega)))
       have q_1 := cell_of_block Q_1
       clear hb
       rw [← put_self Q_0]
       have L_1 : w.heap.size + 1 < w3.heap.size := by omega
       have hne0 : ¬ w.heap.size + 1 = w.heap.size := by omega
       rw [← put_self (w := w3) Q_1]))
  refine bodyPost_ret (v := (PD.with_ ⟨xid, xk, xu, xl, xm, ⟨oA, on, oc⟩, ⟨hA, hn, hc⟩, xsf, xst, xp, xo, xh⟩ vo vh).val) (by simp [results, Tryz.results43, go_sem, L_0, L_1, hne0, PD.with_]) rfl ?_
  refine ⟨by go_light; (repeat' (first | (with_reducible exact Below.refl _ _) | (with_reducible exact Nat.le_refl _) | (with_reducible assumption) | (with_reducible refine below_step ?_ ?_ hr) | (with_reducible refine below_over ?_ ?_ _) | (with_reducible refine Below.alloc ?_ ?_ _) | (with_reducible refine Below.setCell ?_ ?_ _) | (with_reducible refine below_put ?_ ?_ _) | (with_reducible refine Below.drew ?_) | (with_reducible refine below_drewN_ ?_ _) | (with_reducible refine le_drewN ?_ _) | (with_reducible refine over_le _ _ _ ?_) | (with_reducible refine le_alloc ?_ _) | (with_reducible refine le_setCell ?_ _ _) | (with_reducible refine le_put ?_ _ _) | (with_reducible refine le_drew ?_) | dsimp only | omega | ((try simp only [World.size_alloc, World.size_setCell, World.size_drew, size_put]); omega) | (simp; done))), vo, vh, rfl, ?_, ?_⟩
  · go_light
    refine (Hvo3.out.put L_1 (fun g hg => by have := hvl.out g hg; omega)).put (by rw [size_put]; exact L_0) (fun g hg => by have := hvl.out g hg; omega)
  · go_light
    refine (Hvh.out.put L_1 (fun g hg => by have := hvl2.out g hg; omega)).put (by rw [size_put]; exact L_0) (fun g hg => by have := hvl2.out g hg; omega)
set_option maxRecDepth 100000 in
set_option maxHeartbeats 4000000 in
theorem ref22_Find (s : Sl) (es : List PD) (id : Int) (w : World) (hs : Rd w PD.enc s es) (he : ∀ p ∈ es, p.at_ w) (hsm : smallP es) : Calls Tryz.prog 24 #[s.val, .int .i64 id] w (FindPost w (findF id es)) := by
  obtain ⟨A, n, c⟩ := s
  have hmax : n ≤ 9223372036854775807 := hs.bound
  have Hs := Lib.hid hs
  have He := Lib.hid he
  have Hsm := Lib.hid hsm
  clear hs he hsm
  generalize hV : FindPost w (findF id es) = P
  have HP := Lib.hid hV
  clear hV
  simp only [Sl.val]
  (go_enter Tryz.func24, Tryz.ntmps24; try dsimp only [List.append])
  go_wp2_with fail
  refine wp_letter (fun w1 hb => ?_)
  have hz := hb.size
  (try simp only [World.size_alloc, World.size_setCell, World.size_drew, size_put] at hz)
  have hB : Below w.heap.size w w1 := below_step (by (repeat' (first | (with_reducible exact Below.refl _ _) | (with_reducible exact Nat.le_refl _) | (with_reducible assumption) | (with_reducible refine below_step ?_ ?_ hr) | (with_reducible refine below_over ?_ ?_ _) | (with_reducible refine Below.alloc ?_ ?_ _) | (with_reducible refine Below.setCell ?_ ?_ _) | (with_reducible refine below_put ?_ ?_ _) | (with_reducible refine Below.drew ?_) | (with_reducible refine below_drewN_ ?_ _) | (with_reducible refine le_drewN ?_ _) | (with_reducible refine over_le _ _ _ ?_) | (with_reducible refine le_alloc ?_ _) | (with_reducible refine le_setCell ?_ _ _) | (with_reducible refine le_put ?_ _ _) | (with_reducible refine le_drew ?_) | dsimp only | omega | ((try simp only [World.size_alloc, World.size_setCell, World.size_drew, size_put]); omega) | (simp; done)))) (by (first | omega | ((try simp only [World.size_alloc, World.size_setCell, World.size_drew, size_put]); omega))) hb
  have Q' : w1.heap[w.heap.size]? = _ := hb.block (w.heap.size) (by (first | omega | ((try simp only [World.size_alloc, World.size_setCell, World.size_drew, size_put]); omega)))
  simp only [alloc_block_if, put_block_if, over_block_if, set_block_if, setObj_cells, drew_block, drewN_block, Option.map_some, List.setIfInBounds_toArray, List.set_cons_zero, List.set_cons_succ, World.size_alloc, World.size_setCell, size_put, World.size_drew, if_true, if_false, ↓IntWalk.iteOmega] at Q'
  have Q_0 := Q'
  clear Q'
  have q_0 := cell_of_block Q_0
  clear hb
  go_loopw [6] (fun i wr => ∃ k : Nat, k ≤ n ∧ i = .int .i64 k ∧ Hid (findF id (es.drop k) = findF id es) ∧ Below w1.heap.size w1 wr) (fun i _ => n - (intOf i).toNat)
  case atStart => exact ⟨0, Nat.zero_le _, rfl, rfl, Below.refl _ _⟩
  case round =>
    obtain ⟨k, hk, rfl, Hl, hBr⟩ := hrel
    have hzr := hBr.size
    have hBw : Below w.heap.size w wr := hB.trans (hBr.mono (by omega))
    have Q_0 := (hBr.block _ (by omega)).trans Q_0
    have q_0 := cell_of_block Q_0
    by_cases hlt : k < n
    · obtain ⟨b, off, x, rfl, hbw, Hx, Hx0, hc0, hc1, hc2, hc3, hc4, hc5, hc6, hc7, hc8, hc9⟩ := Hs.out.pd hlt
      have e0 := (hBw.cell (p := ⟨b, _, none⟩) hbw).trans hc0
      have e1 := (hBw.cell (p := ⟨b, _, none⟩) hbw).trans hc1
      have e2 := (hBw.cell (p := ⟨b, _, none⟩) hbw).trans hc2
      have e3 := (hBw.cell (p := ⟨b, _, none⟩) hbw).trans hc3
      have e4 := (hBw.cell (p := ⟨b, _, none⟩) hbw).trans hc4
      have e5 := (hBw.cell (p := ⟨b, _, none⟩) hbw).trans hc5
      have e6 := (hBw.cell (p := ⟨b, _, none⟩) hbw).trans hc6
      have e7 := (hBw.cell (p := ⟨b, _, none⟩) hbw).trans hc7
      have e8 := (hBw.cell (p := ⟨b, _, none⟩) hbw).trans hc8
      have e9 := (hBw.cell (p := ⟨b, _, none⟩) hbw).trans hc9
      clear hc0 hc1 hc2 hc3 hc4 hc5 hc6 hc7 hc8 hc9
      have Hxa : Hid (x.at_ w) := He.out x (List.mem_of_getElem? Hx0.out)
      obtain ⟨ho40, hh40⟩ := Hsm.out x (List.mem_of_getElem? Hx0.out)
      by_cases hid : x.id = id
      · have hF : findF id es = some x := by rw [← Hl.out, Hx.out, findF, if_pos hid]
        have HF := Lib.hid hF
        have hidb : (x.id == id) = true := by simpa using hid
        clear hF hid
        go_wp2_with fail
        refine (ref22_Own x _ (Hxa.out.toW (by (repeat' (first | (with_reducible exact Below.refl _ _) | (with_reducible exact Nat.le_refl _) | (with_reducible assumption) | (with_reducible refine below_step ?_ ?_ hr) | (with_reducible refine below_over ?_ ?_ _) | (with_reducible refine Below.alloc ?_ ?_ _) | (with_reducible refine Below.setCell ?_ ?_ _) | (with_reducible refine below_put ?_ ?_ _) | (with_reducible refine Below.drew ?_) | (with_reducible refine below_drewN_ ?_ _) | (with_reducible refine le_drewN ?_ _) | (with_reducible refine over_le _ _ _ ?_) | (with_reducible refine le_alloc ?_ _) | (with_reducible refine le_setCell ?_ _ _) | (with_reducible refine le_put ?_ _ _) | (with_reducible refine le_drew ?_) | dsimp only | omega | ((try simp only [World.size_alloc, World.size_setCell, World.size_drew, size_put]); omega) | (simp; done))))) ⟨by omega, by omega⟩).mono ?_
        rintro e w2 ⟨hb, vo, vh, rfl, hvo, hvh⟩
        have Hvo := Lib.hid hvo
        have Hvh := Lib.hid hvh
        clear hvo hvh
        have hz := hb.size
        (try simp only [World.size_alloc, World.size_setCell, World.size_drew, size_put] at hz)
        have hB : Below w.heap.size w w2 := below_step (by (repeat' (first | (with_reducible exact Below.refl _ _) | (with_reducible exact Nat.le_refl _) | (with_reducible assumption) | (with_reducible refine below_step ?_ ?_ hr) | (with_reducible refine below_over ?_ ?_ _) | (with_reducible refine Below.alloc ?_ ?_ _) | (with_reducible refine Below.setCell ?_ ?_ _) | (with_reducible refine below_put ?_ ?_ _) | (with_reducible refine Below.drew ?_) | (with_reducible refine below_drewN_ ?_ _) | (with_reducible refine le_drewN ?_ _) | (with_reducible refine over_le _ _ _ ?_) | (with_reducible refine le_alloc ?_ _) | (with_reducible refine le_setCell ?_ _ _) | (with_reducible refine le_put ?_ _ _) | (with_reducible refine le_drew ?_) | dsimp only | omega | ((try simp only [World.size_alloc, World.size_setCell, World.size_drew, size_put]); omega) | (simp; done)))) (by (first | omega | ((try simp only [World.size_alloc, World.size_setCell, World.size_drew, size_put]); omega))) hb
        have Q' : w2.heap[w.heap.size]? = _ := hb.block (w.heap.size) (by (first | omega | ((try simp only [World.size_alloc, World.size_setCell, World.size_drew, size_put]); omega)))
        simp only [alloc_block_if, put_block_if, over_block_if, set_block_if, setObj_cells, drew_block, drewN_block, Option.map_some, List.setIfInBounds_toArray, List.set_cons_zero, List.set_cons_succ, World.size_alloc, World.size_setCell, size_put, World.size_drew, if_true, if_false, ↓IntWalk.iteOmega, Q_0] at Q'
        clear Q_0
        have Q_0 := Q'
        clear Q'
        have q_0 := cell_of_block Q_0
        clear hb
        have L_0 : w.heap.size < w2.heap.size := by omega
        rw [← put_self (w := w2) Q_0]
        go_wp2_with fail
        refine bodyPost_ret (v := .tuple #[(x.with_ vo vh).val, .bool true]) (by simp [results, Tryz.results24, go_sem, L_0, PD.with_]) rfl ?_
        show P _ _
        rw [← HP.out, HF.out]
        refine ⟨by go_light; (repeat' (first | (with_reducible exact Below.refl _ _) | (with_reducible exact Nat.le_refl _) | (with_reducible assumption) | (with_reducible refine below_step ?_ ?_ hr) | (with_reducible refine below_over ?_ ?_ _) | (with_reducible refine Below.alloc ?_ ?_ _) | (with_reducible refine Below.setCell ?_ ?_ _) | (with_reducible refine below_put ?_ ?_ _) | (with_reducible refine Below.drew ?_) | (with_reducible refine below_drewN_ ?_ _) | (with_reducible refine le_drewN ?_ _) | (with_reducible refine over_le _ _ _ ?_) | (with_reducible refine le_alloc ?_ _) | (with_reducible refine le_setCell ?_ _ _) | (with_reducible refine le_put ?_ _ _) | (with_reducible refine le_drew ?_) | dsimp only | omega | ((try simp only [World.size_alloc, World.size_setCell, World.size_drew, size_put]); omega) | (simp; done))), vo, vh, rfl, ?_, ?_⟩
        · go_light
          refine (Hvo.out.put L_0 (fun g hg => by have := (Hvo.out.block g hg).1; omega)).from_ (by omega)
        · go_light
          refine (Hvh.out.put L_0 (fun g hg => by have := (Hvh.out.block g hg).1; omega)).from_ (by omega)
      · have hidb : (x.id == id) = false := by simpa using hid
        have HE : Hid (findF id (es.drop (k + 1)) = findF id es) := by show _ = _; rw [← Hl.out, Hx.out, findF, if_neg hid]
        clear hid
        go_wp2_with fail
        go_roundw
        case rel => exact ⟨k + 1, by omega, by go_num, HE, by go_light; (repeat' (first | (with_reducible exact Below.refl _ _) | (with_reducible exact Nat.le_refl _) | (with_reducible assumption) | (with_reducible refine below_step ?_ ?_ hr) | (with_reducible refine below_over ?_ ?_ _) | (with_reducible refine Below.alloc ?_ ?_ _) | (with_reducible refine Below.setCell ?_ ?_ _) | (with_reducible refine below_put ?_ ?_ _) | (with_reducible refine Below.drew ?_) | (with_reducible refine below_drewN_ ?_ _) | (with_reducible refine le_drewN ?_ _) | (with_reducible refine over_le _ _ _ ?_) | (with_reducible refine le_alloc ?_ _) | (with_reducible refine le_setCell ?_ _ _) | (with_reducible refine le_put ?_ _ _) | (with_reducible refine le_drew ?_) | dsimp only | omega | ((try simp only [World.size_alloc, World.size_setCell, World.size_drew, size_put]); omega) | (simp; done)))⟩
        case measure => (simp [intOf] <;> omega)
    · have HF : Hid (findF id es = none) := by show _ = _; rw [← Hl.out, Hs.out.done_ hlt]; rfl
      have L_0 : w.heap.size < wr.heap.size := by omega
      rw [← put_self Q_0]
      go_wp2_with fail
      refine bodyPost_ret (v := .tuple #[zeroP.val, .bool false]) (by simp [results, Tryz.results24, go_sem, L_0]) rfl ?_
      show P _ _
      rw [← HP.out, HF.out]
      exact ⟨by go_light; (repeat' (first | (with_reducible exact Below.refl _ _) | (with_reducible exact Nat.le_refl _) | (with_reducible assumption) | (with_reducible refine below_step ?_ ?_ hr) | (with_reducible refine below_over ?_ ?_ _) | (with_reducible refine Below.alloc ?_ ?_ _) | (with_reducible refine Below.setCell ?_ ?_ _) | (with_reducible refine below_put ?_ ?_ _) | (with_reducible refine Below.drew ?_) | (with_reducible refine below_drewN_ ?_ _) | (with_reducible refine le_drewN ?_ _) | (with_reducible refine over_le _ _ _ ?_) | (with_reducible refine le_alloc ?_ _) | (with_reducible refine le_setCell ?_ _ _) | (with_reducible refine le_put ?_ _ _) | (with_reducible refine le_drew ?_) | dsimp only | omega | ((try simp only [World.size_alloc, World.size_setCell, World.size_drew, size_put]); omega) | (simp; done))), rfl⟩
end Go.Proofs.YtfajjgkhanjcfaaGreat
