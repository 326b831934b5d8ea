/- Tariffs: the program's At: a copy, in memory of its own. -/
import Derived.Test.YtidefepnkhkkiaaTarSum
import Derived.Test.YtidefepnkhkkiaaApp
namespace Go.Proofs.Ytidefepnkhkkiaa
set_option linter.unusedSimpArgs false
set_option linter.unusedVariables false
open Go.RowKit
theorem below_grown {w w' : World} (h : w.grownBy w' none) : Below w.heap.size w w' := ⟨h.os, h.tape, h.output, h.size, fun k hk => h.block k hk (by simp)⟩
def RT.data (r : RT) : Int × Int × Int × List Hrs := (r.lift, r.points, r.extra, r.peak)
structure TF.same (y x : TF) : Prop where
  fr : y.from_ = x.from_
  rates : y.rates.map RT.data = x.rates.map RT.data
def smallT (xs : List TF) : Prop := ∀ x ∈ xs, x.rates.length ≤ 50 ∧ ∀ r ∈ x.rates, r.peak.length ≤ 30
/-- s does not lie in the row that v owns, and from base to hi. -/
def Far (base hi : Nat) (v s : Sl) : Prop := ∀ a, s.a = some a → base ≤ a.block ∧ a.block < hi ∧ v.val.ownBlock ≠ some a.block
theorem info_hours : (Try.prog.info? 53).map (fun i => (i.zero, i.size, i.bytes)) = some (some (.agg #[.int .i64 0, .int .i64 0, .int .i64 0]), 3, 24) := by kernel_rfl
theorem info_rate : (Try.prog.info? 43).map (fun i => (i.zero, i.size, i.bytes)) = some (some (.agg #[.int .i64 0, .int .i64 0, .int .i64 0, .slice none 0 0]), 4, 48) := by kernel_rfl
theorem one_hrs (h : Hrs) : ∀ u ∈ h.enc, u.oneCell' = true := by intro u hu; simp [Hrs.enc] at hu; rcases hu with rfl | rfl | rfl <;> rfl
theorem one_rt (h : RT) : ∀ u ∈ h.enc, u.oneCell' = true := by intro u hu; simp [RT.enc] at hu; rcases hu with rfl | rfl | rfl | rfl <;> rfl
/-- A store into a block that s does not lie in. -/
theorem rd_put0 {α : Type} {w : World} {enc : α → List Value} {s : Sl} {xs : List α} {b : Nat} {o : Obj} (h : Rd w enc s xs) (hb : b < w.heap.size) (hne : ∀ a, s.a = some a → b ≠ a.block) : Rd (Put w b o) enc s xs := by
  refine ⟨h.len, h.cap, h.max, fun hn => ?_⟩
  obtain ⟨g, off, e, hg, hc⟩ := h.cells hn
  refine ⟨g, off, e, by rw [size_put]; exact hg, fun k x hx j u hu => ?_⟩
  have := hne _ e
  refine Eq.trans (World.cell?_of_block (a := ⟨g, _, none⟩) ?_) (hc k x hx j u hu)
  rw [put_block_if _ _ _ _ hb, if_neg (fun q => this q.symm)]
theorem rd_same {α : Type} {w w' : World} {enc : α → List Value} {s : Sl} {xs : List α} (h : Rd w enc s xs) (hz : w.heap.size ≤ w'.heap.size) (hb : ∀ a, s.a = some a → a.block < w.heap.size → w'.heap[a.block]? = w.heap[a.block]?) : Rd w' enc s xs := by
  refine ⟨h.len, h.cap, h.max, fun hn => ?_⟩
  obtain ⟨g, off, e, hg, hc⟩ := h.cells hn
  exact ⟨g, off, e, by omega, fun k x hx j u hu => Eq.trans (World.cell?_of_block (w := w) (w' := w') (a := ⟨g, off + (k * (enc x).length + j), none⟩) (hb ⟨g, off, none⟩ e hg)) (hc k x hx j u hu)⟩
/-- What At hands back. -/
def AtPost (x : TF) (found : Bool) (w : World) (e : Ending) (w' : World) : Prop := ∃ y : TF, e = .returned (.tuple #[y.val, .bool found]) ∧ Below w.heap.size w w' ∧ y.at_ w' ∧ y.same x
abbrev tfB (f : Int) (v : Sl) : Obj := .cells #[.int .i64 f, .slice v.a v.n v.c] 29
set_option maxRecDepth 100000 in
set_option maxHeartbeats 4000000 in
theorem tariff_At (s : Sl) (xs : List TF) (t : Int) (w : World) (hs : TFs w s xs) (hsm : smallT xs) : Calls Try.prog 15 #[s.val, .int .i64 t] w (AtPost (atX xs (idxF xs t)) (idxF xs t).isSome w) := by
  obtain ⟨A, n, c⟩ := s
  have hmax : n ≤ 9223372036854775807 := hs.rd.bound
  have Hs := Lib.hid hs
  have Hsm := Lib.hid hsm
  clear hs hsm
  simp only [Sl.val]
  have Hix := fun w' (h : Below w.heap.size w w') => tariff_index ⟨A, n, c⟩ xs t w' (Hs.out.toW h)
  generalize ho : idxF xs t = o at Hix ⊢
  have Ho := Lib.hid ho
  have Hix := Lib.hid Hix
  clear ho
  cases o with
  | none =>
    have HP : ∀ e w', AtPost zeroTF false w e w' → AtPost (atX xs none) (none : Option Nat).isSome w e w' := fun _ _ h => h
    refine Calls.mono ?_ HP
    clear HP
    (go_enter Try.func15, Try.ntmps15; try dsimp only [List.append])
    go_wp2_with fail
    refine (Hix.out _ (by (repeat' (first | (with_reducible exact Below.refl _ _) | (with_reducible exact Nat.le_refl _) | (with_reducible assumption) | (with_reducible refine below_step ?_ ?_ hr) | (with_reducible refine below_over ?_ ?_ _) | (with_reducible refine Below.alloc ?_ ?_ _) | (with_reducible refine Below.setCell ?_ ?_ _) | (with_reducible refine below_put ?_ ?_ _) | (with_reducible refine Below.drew ?_) | (with_reducible refine below_drewN_ ?_ _) | (with_reducible refine le_drewN ?_ _) | (with_reducible refine over_le _ _ _ ?_) | (with_reducible refine le_alloc ?_ _) | (with_reducible refine le_setCell ?_ _ _) | (with_reducible refine le_put ?_ _ _) | (with_reducible refine le_drew ?_) | dsimp only | omega | ((try simp only [World.size_alloc, World.size_setCell, World.size_drew, size_put]); omega) | (simp; done))))).mono ?_
    rintro e w1 ⟨rfl, rfl⟩
    simp only [idxV]
    go_wp2_with fail
    go_returns
    exact ⟨zeroTF, rfl, by go_light; (repeat' (first | (with_reducible exact Below.refl _ _) | (with_reducible exact Nat.le_refl _) | (with_reducible assumption) | (with_reducible refine below_step ?_ ?_ hr) | (with_reducible refine below_over ?_ ?_ _) | (with_reducible refine Below.alloc ?_ ?_ _) | (with_reducible refine Below.setCell ?_ ?_ _) | (with_reducible refine below_put ?_ ?_ _) | (with_reducible refine Below.drew ?_) | (with_reducible refine below_drewN_ ?_ _) | (with_reducible refine le_drewN ?_ _) | (with_reducible refine over_le _ _ _ ?_) | (with_reducible refine le_alloc ?_ _) | (with_reducible refine le_setCell ?_ _ _) | (with_reducible refine le_put ?_ _ _) | (with_reducible refine le_drew ?_) | dsimp only | omega | ((try simp only [World.size_alloc, World.size_setCell, World.size_drew, size_put]); omega) | (simp; done))), ⟨Rd.nil_ _ _, fun x hx => by cases hx⟩, ⟨rfl, rfl⟩⟩
  | some q =>
    obtain ⟨x, hq, -⟩ := idxF_some Ho.out
    have hqn : q < n := by have := (List.getElem?_eq_some_iff.1 hq).1; have := Hs.out.rd.len; dsimp only at this; omega
    have Hxa : Hid (x.at_ w) := Hs.out.all x (List.mem_of_getElem? hq)
    obtain ⟨hx50, hx30⟩ := Hsm.out x (List.mem_of_getElem? hq)
    have Hx30 := Lib.hid hx30
    have HP : ∀ e w', AtPost x true w e w' → AtPost (atX xs (some q)) (some q).isSome w e w' := fun _ _ h => by
      have e : atX xs (some q) = x := by show (xs[q]?).getD zeroTF = x; rw [hq]; rfl
      rw [e]; exact h
    refine Calls.mono ?_ HP
    clear HP hx30
    obtain ⟨b, off, x', rfl, hbw, -, Hx0, hc0, hc1⟩ := Hs.out.rd.tf hqn
    obtain rfl : x = x' := by have h := Hx0.out; rw [hq] at h; cases h; rfl
    clear hq Hx0 Ho
    obtain ⟨xf, ⟨B, m, cm⟩, rs⟩ := x
    dsimp only at hc0 hc1 hx50
    have hm : m ≤ 9223372036854775807 := Hxa.out.rd.bound
    have Hm : Hid (rs.length = m) := Hxa.out.rd.len
    have hm50 : m ≤ 50 := by have := Hm.out; omega
    clear hx50
    generalize hPost : AtPost ⟨xf, ⟨B, m, cm⟩, rs⟩ true w = Post
    have HPost := Lib.hid hPost
    clear hPost
    (go_enter Try.func15, Try.ntmps15; try dsimp only [List.append])
    go_wp2_with fail
    refine (Hix.out _ (by (repeat' (first | (with_reducible exact Below.refl _ _) | (with_reducible exact Nat.le_refl _) | (with_reducible assumption) | (with_reducible refine below_step ?_ ?_ hr) | (with_reducible refine below_over ?_ ?_ _) | (with_reducible refine Below.alloc ?_ ?_ _) | (with_reducible refine Below.setCell ?_ ?_ _) | (with_reducible refine below_put ?_ ?_ _) | (with_reducible refine Below.drew ?_) | (with_reducible refine below_drewN_ ?_ _) | (with_reducible refine le_drewN ?_ _) | (with_reducible refine over_le _ _ _ ?_) | (with_reducible refine le_alloc ?_ _) | (with_reducible refine le_setCell ?_ _ _) | (with_reducible refine le_put ?_ _ _) | (with_reducible refine le_drew ?_) | dsimp only | omega | ((try simp only [World.size_alloc, World.size_setCell, World.size_drew, size_put]); omega) | (simp; done))))).mono ?_
    rintro e w1 ⟨rfl, rfl⟩
    simp only [idxV]
    go_wp2_with fail
    go_loopw [28] (fun i wr => ∃ (k : Nat) (v : Sl) (acc : List RT), k ≤ m ∧ i = .int .i64 k ∧ Below w.heap.size w wr ∧ Hid (wr.heap[w.heap.size]? = some (tfB 0 ⟨none, 0, 0⟩)) ∧ Hid (wr.heap[w.heap.size + 1]? = some (tfB xf v)) ∧
      Hid (Own wr (w.heap.size + 1 + 1) 43 4 RT.enc v acc) ∧ Hid (acc.map RT.data = (rs.take k).map RT.data) ∧ Hid (∀ r ∈ acc, Rd wr Hrs.enc r.sp r.peak ∧ Far (w.heap.size + 1 + 1) wr.heap.size v r.sp) ∧ w.heap.size + 2 ≤ wr.heap.size) (fun i _ => m - (intOf i).toNat)
    case atStart =>
      refine ⟨0, ⟨none, 0, 0⟩, [], Nat.zero_le _, rfl, by go_light; (repeat' (first | (with_reducible exact Below.refl _ _) | (with_reducible exact Nat.le_refl _) | (with_reducible assumption) | (with_reducible refine below_step ?_ ?_ hr) | (with_reducible refine below_over ?_ ?_ _) | (with_reducible refine Below.alloc ?_ ?_ _) | (with_reducible refine Below.setCell ?_ ?_ _) | (with_reducible refine below_put ?_ ?_ _) | (with_reducible refine Below.drew ?_) | (with_reducible refine below_drewN_ ?_ _) | (with_reducible refine le_drewN ?_ _) | (with_reducible refine over_le _ _ _ ?_) | (with_reducible refine le_alloc ?_ _) | (with_reducible refine le_setCell ?_ _ _) | (with_reducible refine le_put ?_ _ _) | (with_reducible refine le_drew ?_) | dsimp only | omega | ((try simp only [World.size_alloc, World.size_setCell, World.size_drew, size_put]); omega) | (simp; done))), ?_, ?_, Own.nil_ _ _ _ _ _, rfl, (show ∀ r ∈ ([] : List RT), _ from fun r hr => nomatch hr), by simp⟩
      · show ((w.alloc _).alloc _).heap[w.heap.size]? = _
        rw [alloc_block_if, if_neg (by simp), alloc_block_if, if_pos rfl]
      · show ((w.alloc _).alloc _).heap[w.heap.size + 1]? = _
        rw [alloc_block_if, if_pos (by simp)]
    case round =>
      obtain ⟨k, v, acc, hk, rfl, hB, HQ0, HQ1, HO, HD, HF, hz2⟩ := hrel
      by_cases hlt : k < m
      · obtain ⟨b2, off2, y, rfl, hbw2, -, Hy0, hd0, hd1, hd2, hd3⟩ := Hxa.out.rd.rt hlt
        have e0 := (hB.cell (p := ⟨b2, _, none⟩) hbw2).trans hd0
        have e1 := (hB.cell (p := ⟨b2, _, none⟩) hbw2).trans hd1
        have e2 := (hB.cell (p := ⟨b2, _, none⟩) hbw2).trans hd2
        have e3 := (hB.cell (p := ⟨b2, _, none⟩) hbw2).trans hd3
        clear hd0 hd1 hd2 hd3
        have Hya : Hid (Rd w Hrs.enc y.sp y.peak) := Hxa.out.all y (List.mem_of_getElem? Hy0.out)
        have hy30 := Hx30.out y (List.mem_of_getElem? Hy0.out)
        obtain ⟨yl, yp, ye, ⟨yA, yn, yc⟩, yh⟩ := y
        have Hyn : Hid (yh.length = yn) := Hya.out.len
        have hyn : yn ≤ 30 := by have := Hyn.out; dsimp only at hy30; omega
        dsimp only at e0 e1 e2 e3
        clear hy30
        have Q_1 := HQ1.out
        have HAn : Hid (acc.length = k) := by have h := congrArg List.length HD.out; simp only [List.length_map, List.length_take] at h; have := Hm.out; show acc.length = k; omega
        have hvn : v.n = k := by rw [← HO.out.len, HAn.out]
        have Hvn := Lib.hid hvn
        clear hvn
        go_wp2_with (first
          | (at_builtin
             obtain ⟨i0, hi, hi0, hi1, hi2⟩ := info_parts info_hours
             refine wpList_append_rd rfl _ _ _ rfl (w.heap.size + 1 + 1) 53 i0 _ 3 24 Try.underlying41 hi hi0 hi1 hi2 rfl (by decide) (fun _ => rfl) one_hrs (s := ⟨none, 0, 0⟩) (y := ⟨yA, yn, yc⟩) (xs := []) (ys := yh) rfl rfl (Own.nil_ _ _ _ _ _) (Hya.out.toW (by (repeat' (first | (with_reducible exact Below.refl _ _) | (with_reducible exact Nat.le_refl _) | (with_reducible assumption) | (with_reducible refine below_step ?_ ?_ hr) | (with_reducible refine below_over ?_ ?_ _) | (with_reducible refine Below.alloc ?_ ?_ _) | (with_reducible refine Below.setCell ?_ ?_ _) | (with_reducible refine below_put ?_ ?_ _) | (with_reducible refine Below.drew ?_) | (with_reducible refine below_drewN_ ?_ _) | (with_reducible refine le_drewN ?_ _) | (with_reducible refine over_le _ _ _ ?_) | (with_reducible refine le_alloc ?_ _) | (with_reducible refine le_setCell ?_ _ _) | (with_reducible refine le_put ?_ _ _) | (with_reducible refine le_drew ?_) | dsimp only | omega | ((try simp only [World.size_alloc, World.size_setCell, World.size_drew, size_put]); omega) | (simp; done))))) (by simp only [maxLen]; omega) (by simp only; omega) (by simp; omega) ?_
             clear hi hi0 hi1 hi2 i0
             intro pk w2 hp hg hpos
             rw [List.nil_append] at hp
             have Hp := Lib.hid hp
             have Hpos := Lib.hid hpos
             have hb := below_grown hg
             have Hb2 := Lib.hid (hb.block)
             clear hp hpos hg
             have hz := hb.size
             (try simp only [World.size_alloc, World.size_setCell, World.size_drew, size_put] at hz)
             have hB : Below w.heap.size w w2 := below_step (by (repeat' (first | (with_reducible exact Below.refl _ _) | (with_reducible exact Nat.le_refl _) | (with_reducible assumption) | (with_reducible refine below_step ?_ ?_ hr) | (with_reducible refine below_over ?_ ?_ _) | (with_reducible refine Below.alloc ?_ ?_ _) | (with_reducible refine Below.setCell ?_ ?_ _) | (with_reducible refine below_put ?_ ?_ _) | (with_reducible refine Below.drew ?_) | (with_reducible refine below_drewN_ ?_ _) | (with_reducible refine le_drewN ?_ _) | (with_reducible refine over_le _ _ _ ?_) | (with_reducible refine le_alloc ?_ _) | (with_reducible refine le_setCell ?_ _ _) | (with_reducible refine le_put ?_ _ _) | (with_reducible refine le_drew ?_) | dsimp only | omega | ((try simp only [World.size_alloc, World.size_setCell, World.size_drew, size_put]); omega) | (simp; done)))) (by (first | omega | ((try simp only [World.size_alloc, World.size_setCell, World.size_drew, size_put]); omega))) hb
             have Q' : w2.heap[w.heap.size + 1]? = _ := hb.block (w.heap.size + 1) (by (first | omega | ((try simp only [World.size_alloc, World.size_setCell, World.size_drew, size_put]); omega)))
             simp only [alloc_block_if, put_block_if, over_block_if, set_block_if, setObj_cells, drew_block, drewN_block, Option.map_some, List.setIfInBounds_toArray, List.set_cons_zero, List.set_cons_succ, World.size_alloc, World.size_setCell, size_put, World.size_drew, if_true, if_false, ↓IntWalk.iteOmega, Q_1] at Q'
             clear Q_1
             have Q_1 := Q'
             clear Q'
             have Q' : w2.heap[wr.heap.size]? = _ := hb.block (wr.heap.size) (by (first | omega | ((try simp only [World.size_alloc, World.size_setCell, World.size_drew, size_put]); omega)))
             simp only [alloc_block_if, put_block_if, over_block_if, set_block_if, setObj_cells, drew_block, drewN_block, Option.map_some, List.setIfInBounds_toArray, List.set_cons_zero, List.set_cons_succ, World.size_alloc, World.size_setCell, size_put, World.size_drew, if_true, if_false, ↓IntWalk.iteOmega] at Q'
             have Qwr_0 := Q'
             clear Q'
             have q_1 := cell_of_block Q_1
             have Lwr_0 : wr.heap.size < w2.heap.size := (by (first | omega | ((try simp only [World.size_alloc, World.size_setCell, World.size_drew, size_put]); omega)))
             clear hb
             rw [← put_self Qwr_0]
             have hz2w := hz)
          | (at_builtin
             obtain ⟨i0, hi, hi0, hi1, hi2⟩ := info_parts info_rate
             refine wpList_append_rd rfl _ _ _ rfl (w.heap.size + 1 + 1) 43 i0 _ 4 48 Try.underlying27 hi hi0 hi1 hi2 rfl (by decide) (fun _ => rfl) one_rt (s := v) (y := ⟨some ⟨w2.heap.size, 0, none⟩, 1, 1⟩) (xs := acc) (ys := [⟨yl, yp, ye, pk, yh⟩]) rfl rfl
               (HO.out.same (fun g hg => by
                 have hlg := HO.out.block g hg
                 rw [alloc_block_if, if_neg (by rw [size_put]; omega), put_block_if _ _ _ _ Lwr_0, if_neg (by omega), Hb2.out g (by simp; omega), alloc_block_if, if_neg (by omega)]))
               (rd_new 4 (fun _ => rfl) [_] (by rw [size_put]) rfl rfl (by simp [maxLen])) (by have := Hvn.out; simp only [maxLen]; omega) (by have := Hvn.out; simp only; omega) (by simp [size_put]; omega) ?_
             clear hi hi0 hi1 hi2 i0
             intro v3 w3 hv3 hg3 hpos3
             have hz3 : w2.heap.size + 1 ≤ w3.heap.size := by have := hg3.size; simpa [size_put] using this
             have hblk : ∀ g, g < w2.heap.size → g ≠ wr.heap.size → v.val.ownBlock ≠ some g → w3.heap[g]? = w2.heap[g]? := fun g h1 h2 h3 => by
               rw [hg3.block g (by simp [size_put]; omega) (fun e => h3 e.symm), alloc_block_if, if_neg (by rw [size_put]; omega), put_block_if _ _ _ _ Lwr_0, if_neg h2]
             have Q_1' : w3.heap[w.heap.size + 1]? = some (tfB xf v) := (hblk _ (by omega) (by omega) (fun e => by have := (HO.out.block _ e).1; omega)).trans Q_1
             have hB3 : Below w.heap.size w w3 := Below.grown (by (repeat' (first | (with_reducible exact Below.refl _ _) | (with_reducible exact Nat.le_refl _) | (with_reducible assumption) | (with_reducible refine below_step ?_ ?_ hr) | (with_reducible refine below_over ?_ ?_ _) | (with_reducible refine Below.alloc ?_ ?_ _) | (with_reducible refine Below.setCell ?_ ?_ _) | (with_reducible refine below_put ?_ ?_ _) | (with_reducible refine Below.drew ?_) | (with_reducible refine below_drewN_ ?_ _) | (with_reducible refine le_drewN ?_ _) | (with_reducible refine over_le _ _ _ ?_) | (with_reducible refine le_alloc ?_ _) | (with_reducible refine le_setCell ?_ _ _) | (with_reducible refine le_put ?_ _ _) | (with_reducible refine le_drew ?_) | dsimp only | omega | ((try simp only [World.size_alloc, World.size_setCell, World.size_drew, size_put]); omega) | (simp; done)))) hg3 (by simp [size_put]; omega) (fun g hg => by have := (HO.out.block g hg).1; omega)
             have L_1 : w.heap.size + 1 < w3.heap.size := by omega
             have Hv3 := Lib.hid hv3
             have Hpos3 : Hid (v3.val.ownBlock = v.val.ownBlock ∨ v3.val.ownBlock = some (w2.heap.size + 1)) := by
               rcases hpos3 with h | h
               · exact .inl h
               · right; rw [h]; simp [size_put]
             have Hblk := Lib.hid hblk
             clear hv3 hpos3 hblk hg3
             rw [← put_self Q_1']))
        go_roundw
        case rel =>
          refine ⟨k + 1, v3, acc ++ [⟨yl, yp, ye, pk, yh⟩], by omega, by go_num, by go_light; (repeat' (first | (with_reducible exact Below.refl _ _) | (with_reducible exact Nat.le_refl _) | (with_reducible assumption) | (with_reducible refine below_step ?_ ?_ hr) | (with_reducible refine below_over ?_ ?_ _) | (with_reducible refine Below.alloc ?_ ?_ _) | (with_reducible refine Below.setCell ?_ ?_ _) | (with_reducible refine below_put ?_ ?_ _) | (with_reducible refine Below.drew ?_) | (with_reducible refine below_drewN_ ?_ _) | (with_reducible refine le_drewN ?_ _) | (with_reducible refine over_le _ _ _ ?_) | (with_reducible refine le_alloc ?_ _) | (with_reducible refine le_setCell ?_ _ _) | (with_reducible refine le_put ?_ _ _) | (with_reducible refine le_drew ?_) | dsimp only | omega | ((try simp only [World.size_alloc, World.size_setCell, World.size_drew, size_put]); omega) | (simp; done))), ?_, ?_, ?_, ?_, ?_, by rw [size_put]; omega⟩
          all_goals go_light
          · show (Put w3 _ _).heap[w.heap.size]? = _
            rw [put_block_if _ _ _ _ L_1, if_neg (by omega), Hblk.out _ (by omega) (by omega) (fun e => by have := (HO.out.block _ e).1; omega), Hb2.out _ (by simp; omega), alloc_block_if, if_neg (by omega)]
            exact HQ0.out
          · show (Put w3 _ _).heap[w.heap.size + 1]? = _
            rw [put_block_if _ _ _ _ L_1, if_pos rfl]
          · exact Hv3.out.same (fun g hg => by have := (Hv3.out.block g hg).1; rw [put_block_if _ _ _ _ L_1, if_neg (by omega)])
          · show (acc ++ _).map RT.data = (rs.take (k + 1)).map RT.data
            rw [List.map_append, HD.out, List.take_add_one, Hy0.out, List.map_append]
            rfl
          · show ∀ r ∈ acc ++ _, _
            intro r hr
            have hvg : ∀ g, v.val.ownBlock = some g → g < wr.heap.size := fun g hg => (HO.out.block g hg).2
            rcases List.mem_append.1 hr with hr | hr
            · obtain ⟨h1, h2⟩ := HF.out r hr
              refine ⟨rd_same h1 (by rw [size_put]; omega) (fun a ha hlt' => ?_), fun a ha => ⟨(h2 a ha).1, by have := (h2 a ha).2.1; rw [size_put]; omega, ?_⟩⟩
              · obtain ⟨h3, -, h4⟩ := h2 a ha
                rw [put_block_if _ _ _ _ L_1, if_neg (by omega), Hblk.out _ (by omega) (by omega) h4, Hb2.out _ (by simp; omega), alloc_block_if, if_neg (by omega)]
              · obtain ⟨h3, h5, h4⟩ := h2 a ha
                rcases Hpos3.out with h | h
                · rw [h]; exact h4
                · rw [h]
                  intro e
                  have := Option.some.inj e
                  omega
            · rw [List.mem_singleton.1 hr]
              have hpk : ∀ a, pk.a = some a → a.block = wr.heap.size + 1 ∧ a.block < w2.heap.size := fun a ha => by
                have ho : pk.val.ownBlock = some a.block := by show Value.ownBlock (.slice pk.a pk.n pk.c) = _; rw [ha]; rfl
                have hb := (Hp.out.block _ ho).2
                rcases Hpos.out with h | h
                · rw [ho] at h; cases h
                · rw [ho] at h
                  simp at h
                  exact ⟨h, hb⟩
              refine ⟨rd_same (Hp.out.rd (fun _ => rfl)) (by rw [size_put]; omega) (fun a ha _ => ?_), fun a ha => ⟨by have := (hpk a ha).1; omega, by have := (hpk a ha).2; rw [size_put]; omega, ?_⟩⟩
              · obtain ⟨h3, h4⟩ := hpk a ha
                rw [put_block_if _ _ _ _ L_1, if_neg (by omega), Hblk.out _ h4 (by omega) (fun e => by have := hvg _ e; omega)]
              · obtain ⟨h3, h4⟩ := hpk a ha
                rcases Hpos3.out with h | h
                · rw [h]
                  intro e
                  have := hvg _ e
                  omega
                · rw [h]
                  intro e
                  have := Option.some.inj e
                  omega
        case measure => (simp [intOf] <;> omega)
      · have Q_0 := HQ0.out
        have Q_1 := HQ1.out
        have q_1 := cell_of_block Q_1
        have L_0 : w.heap.size < wr.heap.size := by omega
        rw [← put_self Q_0]
        go_wp2_with fail
        refine bodyPost_ret (v := .tuple #[.agg #[.int .i64 xf, .slice v.a v.n v.c], .bool true]) (by simp [results, Try.results15, go_sem, L_0]) rfl ?_
        show Post _ _
        rw [← HPost.out]
        refine ⟨⟨xf, v, acc⟩, rfl, by go_light; (repeat' (first | (with_reducible exact Below.refl _ _) | (with_reducible exact Nat.le_refl _) | (with_reducible assumption) | (with_reducible refine below_step ?_ ?_ hr) | (with_reducible refine below_over ?_ ?_ _) | (with_reducible refine Below.alloc ?_ ?_ _) | (with_reducible refine Below.setCell ?_ ?_ _) | (with_reducible refine below_put ?_ ?_ _) | (with_reducible refine Below.drew ?_) | (with_reducible refine below_drewN_ ?_ _) | (with_reducible refine le_drewN ?_ _) | (with_reducible refine over_le _ _ _ ?_) | (with_reducible refine le_alloc ?_ _) | (with_reducible refine le_setCell ?_ _ _) | (with_reducible refine le_put ?_ _ _) | (with_reducible refine le_drew ?_) | dsimp only | omega | ((try simp only [World.size_alloc, World.size_setCell, World.size_drew, size_put]); omega) | (simp; done))), ⟨?_, ?_⟩, ⟨rfl, ?_⟩⟩
        · go_light
          have h := HO.out.rd (fun _ => rfl)
          exact rd_put0 h L_0 (fun g hg => by have := (HO.out.block g.block (by show Value.ownBlock (.slice v.a v.n v.c) = _; rw [hg]; rfl)).1; omega)
        · go_light
          intro r hr
          obtain ⟨h1, h2⟩ := HF.out r hr
          exact rd_put0 h1 L_0 (fun g hg => by have := (h2 _ hg).1; omega)
        · show acc.map RT.data = rs.map RT.data
          rw [HD.out, List.take_of_length_le (by have := Hm.out; omega)]
end Go.Proofs.Ytidefepnkhkkiaa
