/- Products: Find, of the program and of the reference: a copy in memory of its own. -/
import Derived.Test.YtfajjgkhanjcfaaGreatPClone
import Derived.Test.YtfajjgkhanjcfaaGreatMA
namespace Go.Proofs.YtfajjgkhanjcfaaGreat
set_option linter.unusedSimpArgs false
set_option linter.unusedVariables false
open Go.RowKit
section
variable {α : Type} {w w' : World} {base : Nat} {e : TypeId} {size : Nat} {enc : α → List Value} {s : Sl} {xs : List α}
theorem Own.from_ {base' : Nat} (h : Own w base e size enc s xs) (hb : base' ≤ base) : Own w base' e size enc s xs := by
  refine ⟨h.len, h.row.1, ?_⟩
  rcases h.row.2 with h2 | ⟨g, cap, cur, hv, h3, h4⟩
  · exact .inl h2
  · exact .inr ⟨g, cap, cur, hv, by omega, h4⟩
end
def PD.with_ (x : PD) (so sh : Sl) : PD := ⟨x.id, x.kind, x.units, x.least, x.most, so, sh, x.sf, x.st, x.price, x.ops, x.hours⟩
abbrev zeroP : PD := ⟨0, 0, 0, 0, 0, ⟨none, 0, 0⟩, ⟨none, 0, 0⟩, 0, 0, 0, [], []⟩
def findF (id : Int) : List PD → Option PD
  | [] => none
  | p :: r => if p.id = id then some p else findF id r
def CopyOf (w : World) (base : Nat) (so sh : Sl) (x : PD) : Prop := OwnI w base so x.ops ∧ OwnH w base sh x.hours
/-- What Find hands back. -/
def FindPost (w : World) (o : Option PD) (e : Ending) (w' : World) : Prop := Below w.heap.size w w' ∧ match o with
  | none => e = .returned (.tuple #[zeroP.val, .bool false])
  | some x => ∃ so sh : Sl, e = .returned (.tuple #[(x.with_ so sh).val, .bool true]) ∧ CopyOf w' w.heap.size so sh x
def smallP (l : List PD) : Prop := ∀ p ∈ l, p.so.n ≤ 40 ∧ p.sh.n ≤ 40
set_option maxRecDepth 100000 in
set_option maxHeartbeats 4000000 in
theorem product_Find (s : Sl) (es : List PD) (id : Int) (w : World) (hs : Rd w PD.enc s es) (he : ∀ p ∈ es, p.at_ w) (hsm : smallP es) : Calls Tryz.prog 19 #[s.val, .int .i64 id] w (FindPost w (findF id es)) := by
  obtain ⟨A, n, c⟩ := s
  have hmax : n ≤ 9223372036854775807 := hs.bound
  have Hs := Lib.hid hs
  have He := Lib.hid he
  have Hsm := Lib.hid hsm
  clear hs he hsm
  generalize hV : FindPost w (findF id es) = P
  have HP := Lib.hid hV
  clear hV
  simp only [Sl.val]
  (go_enter Tryz.func19, Tryz.ntmps19; try dsimp only [List.append])
  go_wp2_with fail
  refine wp_letter (fun w1 hb => ?_)
  have hz := hb.size
  (try simp only [World.size_alloc, World.size_setCell, World.size_drew, size_put] at hz)
  have hB : Below w.heap.size w w1 := below_step (by (repeat' (first | (with_reducible exact Below.refl _ _) | (with_reducible exact Nat.le_refl _) | (with_reducible assumption) | (with_reducible refine below_step ?_ ?_ hr) | (with_reducible refine below_over ?_ ?_ _) | (with_reducible refine Below.alloc ?_ ?_ _) | (with_reducible refine Below.setCell ?_ ?_ _) | (with_reducible refine below_put ?_ ?_ _) | (with_reducible refine Below.drew ?_) | (with_reducible refine below_drewN_ ?_ _) | (with_reducible refine le_drewN ?_ _) | (with_reducible refine over_le _ _ _ ?_) | (with_reducible refine le_alloc ?_ _) | (with_reducible refine le_setCell ?_ _ _) | (with_reducible refine le_put ?_ _ _) | (with_reducible refine le_drew ?_) | dsimp only | omega | ((try simp only [World.size_alloc, World.size_setCell, World.size_drew, size_put]); omega) | (simp; done)))) (by (first | omega | ((try simp only [World.size_alloc, World.size_setCell, World.size_drew, size_put]); omega))) hb
  have Q' : w1.heap[w.heap.size]? = _ := hb.block (w.heap.size) (by (first | omega | ((try simp only [World.size_alloc, World.size_setCell, World.size_drew, size_put]); omega)))
  simp only [alloc_block_if, put_block_if, over_block_if, set_block_if, setObj_cells, drew_block, drewN_block, Option.map_some, List.setIfInBounds_toArray, List.set_cons_zero, List.set_cons_succ, World.size_alloc, World.size_setCell, size_put, World.size_drew, if_true, if_false, ↓IntWalk.iteOmega] at Q'
  have Q_0 := Q'
  clear Q'
  have q_0 := cell_of_block Q_0
  clear hb
  go_loopw [10] (fun i wr => ∃ k : Nat, k ≤ n ∧ i = .int .i64 k ∧ Hid (findF id (es.drop k) = findF id es) ∧ Below w1.heap.size w1 wr) (fun i _ => n - (intOf i).toNat)
  case atStart => exact ⟨0, Nat.zero_le _, rfl, rfl, Below.refl _ _⟩
  case round =>
    obtain ⟨k, hk, rfl, Hl, hBr⟩ := hrel
    have hzr := hBr.size
    have hBw : Below w.heap.size w wr := hB.trans (hBr.mono (by omega))
    have Q_0 := (hBr.block _ (by omega)).trans Q_0
    have q_0 := cell_of_block Q_0
    by_cases hlt : k < n
    · obtain ⟨b, off, x, rfl, hbw, Hx, Hx0, hc0, hc1, hc2, hc3, hc4, hc5, hc6, hc7, hc8, hc9⟩ := Hs.out.pd hlt
      have e0 := (hBw.cell (p := ⟨b, _, none⟩) hbw).trans hc0
      have e1 := (hBw.cell (p := ⟨b, _, none⟩) hbw).trans hc1
      have e2 := (hBw.cell (p := ⟨b, _, none⟩) hbw).trans hc2
      have e3 := (hBw.cell (p := ⟨b, _, none⟩) hbw).trans hc3
      have e4 := (hBw.cell (p := ⟨b, _, none⟩) hbw).trans hc4
      have e5 := (hBw.cell (p := ⟨b, _, none⟩) hbw).trans hc5
      have e6 := (hBw.cell (p := ⟨b, _, none⟩) hbw).trans hc6
      have e7 := (hBw.cell (p := ⟨b, _, none⟩) hbw).trans hc7
      have e8 := (hBw.cell (p := ⟨b, _, none⟩) hbw).trans hc8
      have e9 := (hBw.cell (p := ⟨b, _, none⟩) hbw).trans hc9
      clear hc0 hc1 hc2 hc3 hc4 hc5 hc6 hc7 hc8 hc9
      have Hxa : Hid (x.at_ w) := He.out x (List.mem_of_getElem? Hx0.out)
      obtain ⟨ho40, hh40⟩ := Hsm.out x (List.mem_of_getElem? Hx0.out)
      obtain ⟨xid, xk, xu, xl, xm, ⟨oA, on, oc⟩, ⟨hA, hn, hc⟩, xsf, xst, xp, xo, xh⟩ := x
      dsimp only at e0 e1 e2 e3 e4 e5 e6 e7 e8 e9 ho40 hh40
      by_cases hid : xid = id
      · have hF : findF id es = some ⟨xid, xk, xu, xl, xm, ⟨oA, on, oc⟩, ⟨hA, hn, hc⟩, xsf, xst, xp, xo, xh⟩ := by rw [← Hl.out, Hx.out, findF, if_pos hid]
        have HF := Lib.hid hF
        have hidb : (xid == id) = true := by simpa using hid
        clear hF hid
        go_wp2_with fail
        refine (clone_ints ⟨oA, on, oc⟩ xo _ (Hxa.out.ops.toW (by (repeat' (first | (with_reducible exact Below.refl _ _) | (with_reducible exact Nat.le_refl _) | (with_reducible assumption) | (with_reducible refine below_step ?_ ?_ hr) | (with_reducible refine below_over ?_ ?_ _) | (with_reducible refine Below.alloc ?_ ?_ _) | (with_reducible refine Below.setCell ?_ ?_ _) | (with_reducible refine below_put ?_ ?_ _) | (with_reducible refine Below.drew ?_) | (with_reducible refine below_drewN_ ?_ _) | (with_reducible refine le_drewN ?_ _) | (with_reducible refine over_le _ _ _ ?_) | (with_reducible refine le_alloc ?_ _) | (with_reducible refine le_setCell ?_ _ _) | (with_reducible refine le_put ?_ _ _) | (with_reducible refine le_drew ?_) | dsimp only | omega | ((try simp only [World.size_alloc, World.size_setCell, World.size_drew, size_put]); omega) | (simp; done))))) (by dsimp only; omega)).mono ?_
        rintro e w2 ⟨vo, rfl, hb, hv⟩
        have Hvo := Lib.hid (hv.from_ (show w.heap.size ≤ _ by simp; omega))
        have hvl : Hid (∀ g, vo.val.ownBlock = some g → wr.heap.size + 1 ≤ g) := fun g hg => by have := (hv.block g hg).1; simp at this; exact this
        clear hv
        have hz := hb.size
        (try simp only [World.size_alloc, World.size_setCell, World.size_drew, size_put] at hz)
        have hB : Below w.heap.size w w2 := below_step (by (repeat' (first | (with_reducible exact Below.refl _ _) | (with_reducible exact Nat.le_refl _) | (with_reducible assumption) | (with_reducible refine below_step ?_ ?_ hr) | (with_reducible refine below_over ?_ ?_ _) | (with_reducible refine Below.alloc ?_ ?_ _) | (with_reducible refine Below.setCell ?_ ?_ _) | (with_reducible refine below_put ?_ ?_ _) | (with_reducible refine Below.drew ?_) | (with_reducible refine below_drewN_ ?_ _) | (with_reducible refine le_drewN ?_ _) | (with_reducible refine over_le _ _ _ ?_) | (with_reducible refine le_alloc ?_ _) | (with_reducible refine le_setCell ?_ _ _) | (with_reducible refine le_put ?_ _ _) | (with_reducible refine le_drew ?_) | dsimp only | omega | ((try simp only [World.size_alloc, World.size_setCell, World.size_drew, size_put]); omega) | (simp; done)))) (by (first | omega | ((try simp only [World.size_alloc, World.size_setCell, World.size_drew, size_put]); omega))) hb
        have Q' : w2.heap[w.heap.size]? = _ := hb.block (w.heap.size) (by (first | omega | ((try simp only [World.size_alloc, World.size_setCell, World.size_drew, size_put]); omega)))
        simp only [alloc_block_if, put_block_if, over_block_if, set_block_if, setObj_cells, drew_block, drewN_block, Option.map_some, List.setIfInBounds_toArray, List.set_cons_zero, List.set_cons_succ, World.size_alloc, World.size_setCell, size_put, World.size_drew, if_true, if_false, ↓IntWalk.iteOmega, Q_0] at Q'
        clear Q_0
        have Q_0 := Q'
        clear Q'
        have Q' : w2.heap[wr.heap.size]? = _ := hb.block (wr.heap.size) (by (first | omega | ((try simp only [World.size_alloc, World.size_setCell, World.size_drew, size_put]); omega)))
        simp only [alloc_block_if, put_block_if, over_block_if, set_block_if, setObj_cells, drew_block, drewN_block, Option.map_some, List.setIfInBounds_toArray, List.set_cons_zero, List.set_cons_succ, World.size_alloc, World.size_setCell, size_put, World.size_drew, if_true, if_false, ↓IntWalk.iteOmega] at Q'
        have Qwr_0 := Q'
        clear Q'
        have q_0 := cell_of_block Q_0
        have Lwr_0 : wr.heap.size < w2.heap.size := (by (first | omega | ((try simp only [World.size_alloc, World.size_setCell, World.size_drew, size_put]); omega)))
        clear hb
        rw [← put_self Qwr_0]
        have hz2 := hz
        go_wp2_with fail
        refine (clone_hours ⟨hA, hn, hc⟩ xh _ (Hxa.out.hours.toW (by (repeat' (first | (with_reducible exact Below.refl _ _) | (with_reducible exact Nat.le_refl _) | (with_reducible assumption) | (with_reducible refine below_step ?_ ?_ hr) | (with_reducible refine below_over ?_ ?_ _) | (with_reducible refine Below.alloc ?_ ?_ _) | (with_reducible refine Below.setCell ?_ ?_ _) | (with_reducible refine below_put ?_ ?_ _) | (with_reducible refine Below.drew ?_) | (with_reducible refine below_drewN_ ?_ _) | (with_reducible refine le_drewN ?_ _) | (with_reducible refine over_le _ _ _ ?_) | (with_reducible refine le_alloc ?_ _) | (with_reducible refine le_setCell ?_ _ _) | (with_reducible refine le_put ?_ _ _) | (with_reducible refine le_drew ?_) | dsimp only | omega | ((try simp only [World.size_alloc, World.size_setCell, World.size_drew, size_put]); omega) | (simp; done))))) (by dsimp only; omega)).mono ?_
        rintro e w3 ⟨vh, rfl, hb, hv⟩
        have Hvh := Lib.hid (hv.from_ (show w.heap.size ≤ _ by simp [size_put]; omega))
        have hvl2 : Hid (∀ g, vh.val.ownBlock = some g → wr.heap.size + 1 ≤ g) := fun g hg => by have := (hv.block g hg).1; simp [size_put] at this; omega
        have Hvo3 := Lib.hid ((Hvo.out.put (o := _) Lwr_0 (fun g hg => by have := hvl.out g hg; omega)).toW hb)
        clear hv
        have hz := hb.size
        (try simp only [World.size_alloc, World.size_setCell, World.size_drew, size_put] at hz)
        have hB : Below w.heap.size w w3 := below_step (by (repeat' (first | (with_reducible exact Below.refl _ _) | (with_reducible exact Nat.le_refl _) | (with_reducible assumption) | (with_reducible refine below_step ?_ ?_ hr) | (with_reducible refine below_over ?_ ?_ _) | (with_reducible refine Below.alloc ?_ ?_ _) | (with_reducible refine Below.setCell ?_ ?_ _) | (with_reducible refine below_put ?_ ?_ _) | (with_reducible refine Below.drew ?_) | (with_reducible refine below_drewN_ ?_ _) | (with_reducible refine le_drewN ?_ _) | (with_reducible refine over_le _ _ _ ?_) | (with_reducible refine le_alloc ?_ _) | (with_reducible refine le_setCell ?_ _ _) | (with_reducible refine le_put ?_ _ _) | (with_reducible refine le_drew ?_) | dsimp only | omega | ((try simp only [World.size_alloc, World.size_setCell, World.size_drew, size_put]); omega) | (simp; done)))) (by (first | omega | ((try simp only [World.size_alloc, World.size_setCell, World.size_drew, size_put]); omega))) hb
        have Q' : w3.heap[w.heap.size]? = _ := hb.block (w.heap.size) (by (first | omega | ((try simp only [World.size_alloc, World.size_setCell, World.size_drew, size_put]); omega)))
        simp only [alloc_block_if, put_block_if, over_block_if, set_block_if, setObj_cells, drew_block, drewN_block, Option.map_some, List.setIfInBounds_toArray, List.set_cons_zero, List.set_cons_succ, World.size_alloc, World.size_setCell, size_put, World.size_drew, if_true, if_false, ↓IntWalk.iteOmega, Lwr_0, Q_0] at Q'
        clear Q_0
        have Q_0 := Q'
        clear Q'
        have Q' : w3.heap[wr.heap.size]? = _ := hb.block (wr.heap.size) (by (first | omega | ((try simp only [World.size_alloc, World.size_setCell, World.size_drew, size_put]); omega)))
        simp only [alloc_block_if, put_block_if, over_block_if, set_block_if, setObj_cells, drew_block, drewN_block, Option.map_some, List.setIfInBounds_toArray, List.set_cons_zero, List.set_cons_succ, World.size_alloc, World.size_setCell, size_put, World.size_drew, if_true, if_false, ↓IntWalk.iteOmega, Lwr_0, Qwr_0] at Q'
        clear Qwr_0
        have Qwr_0 := Q'
        clear Q'
        have q_0 := cell_of_block Q_0
        have Lwr_0 : wr.heap.size < w3.heap.size := (by (first | omega | ((try simp only [World.size_alloc, World.size_setCell, World.size_drew, size_put]); omega)))
        clear hb
        rw [← put_self Qwr_0]
        have L_0 : w.heap.size < w3.heap.size := by omega
        have hne0 : ¬ w.heap.size = wr.heap.size := by omega
        rw [← put_self (w := w3) Q_0]
        go_wp2_with fail
        refine bodyPost_ret (v := .tuple #[(PD.with_ ⟨xid, xk, xu, xl, xm, ⟨oA, on, oc⟩, ⟨hA, hn, hc⟩, xsf, xst, xp, xo, xh⟩ vo vh).val, .bool true]) (by simp [results, Tryz.results19, go_sem, L_0, Lwr_0, hne0, PD.with_]) rfl ?_
        show P _ _
        rw [← HP.out, HF.out]
        refine ⟨by go_light; (repeat' (first | (with_reducible exact Below.refl _ _) | (with_reducible exact Nat.le_refl _) | (with_reducible assumption) | (with_reducible refine below_step ?_ ?_ hr) | (with_reducible refine below_over ?_ ?_ _) | (with_reducible refine Below.alloc ?_ ?_ _) | (with_reducible refine Below.setCell ?_ ?_ _) | (with_reducible refine below_put ?_ ?_ _) | (with_reducible refine Below.drew ?_) | (with_reducible refine below_drewN_ ?_ _) | (with_reducible refine le_drewN ?_ _) | (with_reducible refine over_le _ _ _ ?_) | (with_reducible refine le_alloc ?_ _) | (with_reducible refine le_setCell ?_ _ _) | (with_reducible refine le_put ?_ _ _) | (with_reducible refine le_drew ?_) | dsimp only | omega | ((try simp only [World.size_alloc, World.size_setCell, World.size_drew, size_put]); omega) | (simp; done))), vo, vh, rfl, ?_, ?_⟩
        · go_light
          refine (Hvo3.out.put L_0 (fun g hg => by have := hvl.out g hg; omega)).put (by rw [size_put]; exact Lwr_0) (fun g hg => by have := hvl.out g hg; omega)
        · go_light
          refine (Hvh.out.put L_0 (fun g hg => by have := hvl2.out g hg; omega)).put (by rw [size_put]; exact Lwr_0) (fun g hg => by have := hvl2.out g hg; omega)
      · have hidb : (xid == id) = false := by simpa using hid
        have HE : Hid (findF id (es.drop (k + 1)) = findF id es) := by show _ = _; rw [← Hl.out, Hx.out, findF, if_neg hid]
        clear hid
        go_wp2_with fail
        go_roundw
        case rel => exact ⟨k + 1, by omega, by go_num, HE, by go_light; (repeat' (first | (with_reducible exact Below.refl _ _) | (with_reducible exact Nat.le_refl _) | (with_reducible assumption) | (with_reducible refine below_step ?_ ?_ hr) | (with_reducible refine below_over ?_ ?_ _) | (with_reducible refine Below.alloc ?_ ?_ _) | (with_reducible refine Below.setCell ?_ ?_ _) | (with_reducible refine below_put ?_ ?_ _) | (with_reducible refine Below.drew ?_) | (with_reducible refine below_drewN_ ?_ _) | (with_reducible refine le_drewN ?_ _) | (with_reducible refine over_le _ _ _ ?_) | (with_reducible refine le_alloc ?_ _) | (with_reducible refine le_setCell ?_ _ _) | (with_reducible refine le_put ?_ _ _) | (with_reducible refine le_drew ?_) | dsimp only | omega | ((try simp only [World.size_alloc, World.size_setCell, World.size_drew, size_put]); omega) | (simp; done)))⟩
        case measure => (simp [intOf] <;> omega)
    · have HF : Hid (findF id es = none) := by show _ = _; rw [← Hl.out, Hs.out.done_ hlt]; rfl
      have L_0 : w.heap.size < wr.heap.size := by omega
      rw [← put_self Q_0]
      go_wp2_with fail
      refine bodyPost_ret (v := .tuple #[zeroP.val, .bool false]) (by simp [results, Tryz.results19, go_sem, L_0]) rfl ?_
      show P _ _
      rw [← HP.out, HF.out]
      exact ⟨by go_light; (repeat' (first | (with_reducible exact Below.refl _ _) | (with_reducible exact Nat.le_refl _) | (with_reducible assumption) | (with_reducible refine below_step ?_ ?_ hr) | (with_reducible refine below_over ?_ ?_ _) | (with_reducible refine Below.alloc ?_ ?_ _) | (with_reducible refine Below.setCell ?_ ?_ _) | (with_reducible refine below_put ?_ ?_ _) | (with_reducible refine Below.drew ?_) | (with_reducible refine below_drewN_ ?_ _) | (with_reducible refine le_drewN ?_ _) | (with_reducible refine over_le _ _ _ ?_) | (with_reducible refine le_alloc ?_ _) | (with_reducible refine le_setCell ?_ _ _) | (with_reducible refine le_put ?_ _ _) | (with_reducible refine le_drew ?_) | dsimp only | omega | ((try simp only [World.size_alloc, World.size_setCell, World.size_drew, size_put]); omega) | (simp; done))), rfl⟩
end Go.Proofs.YtfajjgkhanjcfaaGreat
