/- Closures: maps; Run and Lift, of the program and of the reference. -/
import Derived.Test.YtpckebhmdjhniaaCloD
namespace Go.Proofs.Ytpckebhmdjhniaa
set_option linter.unusedSimpArgs false
set_option linter.unusedVariables false
open Go.RowKit
structure ND where
  id : Int
  alt : Int
abbrev ND.val (r : ND) : Value := .agg #[.int .i64 r.id, .int .i64 r.alt]
def ND.enc (r : ND) : List Value := [.int .i64 r.id, .int .i64 r.alt]
structure LD where
  id : Int
  operator : Int
  from_ : Int
  to_ : Int
  length : Int
  speed : Int
  seats : Int
  spacing : Int
abbrev LD.val (r : LD) : Value := .agg #[.int .i64 r.id, .int .i64 r.operator, .int .i64 r.from_, .int .i64 r.to_, .int .i64 r.length, .int .i64 r.speed, .int .i64 r.seats, .int .i64 r.spacing]
def LD.enc (r : LD) : List Value := [.int .i64 r.id, .int .i64 r.operator, .int .i64 r.from_, .int .i64 r.to_, .int .i64 r.length, .int .i64 r.speed, .int .i64 r.seats, .int .i64 r.spacing]
structure UD where
  id : Int
  operator : Int
  from_ : Int
  to_ : Int
  grade : Int
  zone : Int
  length : Int
abbrev UD.val (r : UD) : Value := .agg #[.int .i64 r.id, .int .i64 r.operator, .int .i64 r.from_, .int .i64 r.to_, .int .i64 r.grade, .int .i64 r.zone, .int .i64 r.length]
def UD.enc (r : UD) : List Value := [.int .i64 r.id, .int .i64 r.operator, .int .i64 r.from_, .int .i64 r.to_, .int .i64 r.grade, .int .i64 r.zone, .int .i64 r.length]
structure MP where
  sn : Sl
  sl : Sl
  su : Sl
  sb : Sl
  nodes : List ND
  lifts : List LD
  runs : List UD
  bases : List Int
abbrev MP.val (m : MP) : Value := .agg #[.slice m.sn.a m.sn.n m.sn.c, .slice m.sl.a m.sl.n m.sl.c, .slice m.su.a m.su.n m.su.c, .slice m.sb.a m.sb.n m.sb.c]
structure MP.at_ (w : World) (m : MP) : Prop where
  nodes : Rd w ND.enc m.sn m.nodes
  lifts : Rd w LD.enc m.sl m.lifts
  runs : Rd w UD.enc m.su m.runs
  bases : Rd w encI m.sb m.bases
theorem MP.at_.toW {w w' : World} {m : MP} (h : m.at_ w) (hb : Below w.heap.size w w') : m.at_ w' := ⟨h.nodes.toW hb, h.lifts.toW hb, h.runs.toW hb, h.bases.toW hb⟩
theorem Rd.ud {w : World} {s : Sl} {xs : List UD} (h : Rd w UD.enc s xs) {k : Nat} (hk : k < s.n) : ∃ b off x, s.a = some ⟨b, off, none⟩ ∧ b < w.heap.size ∧ Hid (xs.drop k = x :: xs.drop (k + 1)) ∧ Hid (xs[k]? = some x) ∧
    w.cell? ⟨b, off + k * 7, none⟩ = some (.int .i64 x.id) ∧ w.cell? ⟨b, off + k * 7 + 1, none⟩ = some (.int .i64 x.operator) ∧ w.cell? ⟨b, off + k * 7 + 2, none⟩ = some (.int .i64 x.from_) ∧ w.cell? ⟨b, off + k * 7 + 3, none⟩ = some (.int .i64 x.to_) ∧ w.cell? ⟨b, off + k * 7 + 4, none⟩ = some (.int .i64 x.grade) ∧ w.cell? ⟨b, off + k * 7 + 5, none⟩ = some (.int .i64 x.zone) ∧ w.cell? ⟨b, off + k * 7 + 6, none⟩ = some (.int .i64 x.length) := by
  obtain ⟨b, off, x, e, hb, h1, h2, hc⟩ := h.step hk
  exact ⟨b, off, x, e, hb, h1, h2, hc 0 _ rfl, hc 1 _ rfl, hc 2 _ rfl, hc 3 _ rfl, hc 4 _ rfl, hc 5 _ rfl, hc 6 _ rfl⟩
abbrev zeroU : UD := ⟨0, 0, 0, 0, 0, 0, 0⟩
def findU (id : Int) : List UD → Option UD
  | [] => none
  | p :: r => if p.id = id then some p else findU id r
abbrev runV (o : Option UD) : Value := .tuple #[(o.getD zeroU).val, .bool o.isSome]
set_option maxRecDepth 100000 in
set_option maxHeartbeats 3200000 in
theorem terrain_Run (m : MP) (id : Int) (w : World) (hm : m.at_ w) : Calls Try.prog 40 #[m.val, .int .i64 id] w (Gives (runV (findU id m.runs)) w) := by
  obtain ⟨sn, sl, ⟨A, n, c⟩, sb, nodes, lifts, es, bases⟩ := m
  have Hs := Lib.hid hm.runs
  have hmax : n ≤ 9223372036854775807 := hm.runs.bound
  clear hm
  generalize hV : runV (findU id es) = V
  have HV := Lib.hid hV
  clear hV
  simp only [MP.val]
  (go_enter Try.func40, Try.ntmps40; try dsimp only [List.append])
  go_wp2_with fail
  refine wp_letter (fun w1 hb => ?_)
  have hz := hb.size
  (try simp only [World.size_alloc, World.size_setCell, World.size_drew, size_put] at hz)
  have hB : Below w.heap.size w w1 := below_step (by (repeat' (first | (with_reducible exact Below.refl _ _) | (with_reducible exact Nat.le_refl _) | (with_reducible assumption) | (with_reducible refine below_step ?_ ?_ hr) | (with_reducible refine below_over ?_ ?_ _) | (with_reducible refine Below.alloc ?_ ?_ _) | (with_reducible refine Below.setCell ?_ ?_ _) | (with_reducible refine below_put ?_ ?_ _) | (with_reducible refine Below.drew ?_) | (with_reducible refine below_drewN_ ?_ _) | (with_reducible refine le_drewN ?_ _) | (with_reducible refine over_le _ _ _ ?_) | (with_reducible refine le_alloc ?_ _) | (with_reducible refine le_setCell ?_ _ _) | (with_reducible refine le_put ?_ _ _) | (with_reducible refine le_drew ?_) | dsimp only | omega | ((try simp only [World.size_alloc, World.size_setCell, World.size_drew, size_put]); omega) | (simp; done)))) (by (first | omega | ((try simp only [World.size_alloc, World.size_setCell, World.size_drew, size_put]); omega))) hb
  have Q' : w1.heap[w.heap.size]? = _ := hb.block (w.heap.size) (by (first | omega | ((try simp only [World.size_alloc, World.size_setCell, World.size_drew, size_put]); omega)))
  simp only [alloc_block_if, put_block_if, over_block_if, set_block_if, setObj_cells, drew_block, drewN_block, Option.map_some, List.setIfInBounds_toArray, List.set_cons_zero, List.set_cons_succ, World.size_alloc, World.size_setCell, size_put, World.size_drew, if_true, if_false, ↓IntWalk.iteOmega] at Q'
  have Q_0 := Q'
  clear Q'
  have Q' : w1.heap[w.heap.size + 1]? = _ := hb.block (w.heap.size + 1) (by (first | omega | ((try simp only [World.size_alloc, World.size_setCell, World.size_drew, size_put]); omega)))
  simp only [alloc_block_if, put_block_if, over_block_if, set_block_if, setObj_cells, drew_block, drewN_block, Option.map_some, List.setIfInBounds_toArray, List.set_cons_zero, List.set_cons_succ, World.size_alloc, World.size_setCell, size_put, World.size_drew, if_true, if_false, ↓IntWalk.iteOmega] at Q'
  have Q_1 := Q'
  clear Q'
  have q_0 := cell_of_block Q_0
  have q_1 := cell_of_block Q_1
  clear hb
  clear Q_0 q_0
  go_loopw [11] (fun i wr => ∃ k : Nat, k ≤ n ∧ i = .int .i64 k ∧ Hid (findU id (es.drop k) = findU id es) ∧ Below w1.heap.size w1 wr) (fun i _ => n - (intOf i).toNat)
  case atStart => exact ⟨0, Nat.zero_le _, rfl, rfl, Below.refl _ _⟩
  case round =>
    obtain ⟨k, hk, rfl, Hl, hBr⟩ := hrel
    have hzr := hBr.size
    have hBw : Below w.heap.size w wr := hB.trans (hBr.mono (by omega))
    have Q_1 := (hBr.block _ (by omega)).trans Q_1
    clear q_1
    have L_1 : w.heap.size + 1 < wr.heap.size := by omega
    by_cases hlt : k < n
    · obtain ⟨b, off, x, rfl, hbw, Hx, Hx0, hc0, hc1, hc2, hc3, hc4, hc5, hc6⟩ := Hs.out.ud hlt
      have e0 := (hBw.cell (p := ⟨b, _, none⟩) hbw).trans hc0
      have e1 := (hBw.cell (p := ⟨b, _, none⟩) hbw).trans hc1
      have e2 := (hBw.cell (p := ⟨b, _, none⟩) hbw).trans hc2
      have e3 := (hBw.cell (p := ⟨b, _, none⟩) hbw).trans hc3
      have e4 := (hBw.cell (p := ⟨b, _, none⟩) hbw).trans hc4
      have e5 := (hBw.cell (p := ⟨b, _, none⟩) hbw).trans hc5
      have e6 := (hBw.cell (p := ⟨b, _, none⟩) hbw).trans hc6
      clear hc0 hc1 hc2 hc3 hc4 hc5 hc6
      by_cases hid : x.id = id
      · have HF : Hid (V = runV (some x)) := by show _ = _; rw [← HV.out, ← Hl.out, Hx.out, findU, if_pos hid]
        have hidb : (x.id == id) = true := by simpa using hid
        have hne : ¬ b = w.heap.size + 1 := by omega
        have hne2 : ¬ wr.heap.size = w.heap.size + 1 := by omega
        have hne3 : ¬ w.heap.size + 1 = wr.heap.size := by omega
        clear hid
        rw [← put_self Q_1]
        go_wp2_with fail
        refine bodyPost_ret (v := .tuple #[x.val, .bool true]) (by simp [results, Try.results40, go_sem, L_1, hne, hne2, hne3]) rfl ?_
        rw [HF.out]
        exact gives_of rfl (by go_light; (repeat' (first | (with_reducible exact Below.refl _ _) | (with_reducible exact Nat.le_refl _) | (with_reducible assumption) | (with_reducible refine below_step ?_ ?_ hr) | (with_reducible refine below_over ?_ ?_ _) | (with_reducible refine Below.alloc ?_ ?_ _) | (with_reducible refine Below.setCell ?_ ?_ _) | (with_reducible refine below_put ?_ ?_ _) | (with_reducible refine Below.drew ?_) | (with_reducible refine below_drewN_ ?_ _) | (with_reducible refine le_drewN ?_ _) | (with_reducible refine over_le _ _ _ ?_) | (with_reducible refine le_alloc ?_ _) | (with_reducible refine le_setCell ?_ _ _) | (with_reducible refine le_put ?_ _ _) | (with_reducible refine le_drew ?_) | dsimp only | omega | ((try simp only [World.size_alloc, World.size_setCell, World.size_drew, size_put]); omega) | (simp; done))))
      · have hidb : (x.id == id) = false := by simpa using hid
        have HE : Hid (findU id (es.drop (k + 1)) = findU id es) := by show _ = _; rw [← Hl.out, Hx.out, findU, if_neg hid]
        clear hid
        go_wp2_with fail
        go_roundw
        case rel => exact ⟨k + 1, by omega, by go_num, HE, by go_light; (repeat' (first | (with_reducible exact Below.refl _ _) | (with_reducible exact Nat.le_refl _) | (with_reducible assumption) | (with_reducible refine below_step ?_ ?_ hr) | (with_reducible refine below_over ?_ ?_ _) | (with_reducible refine Below.alloc ?_ ?_ _) | (with_reducible refine Below.setCell ?_ ?_ _) | (with_reducible refine below_put ?_ ?_ _) | (with_reducible refine Below.drew ?_) | (with_reducible refine below_drewN_ ?_ _) | (with_reducible refine le_drewN ?_ _) | (with_reducible refine over_le _ _ _ ?_) | (with_reducible refine le_alloc ?_ _) | (with_reducible refine le_setCell ?_ _ _) | (with_reducible refine le_put ?_ _ _) | (with_reducible refine le_drew ?_) | dsimp only | omega | ((try simp only [World.size_alloc, World.size_setCell, World.size_drew, size_put]); omega) | (simp; done)))⟩
        case measure => (simp [intOf] <;> omega)
    · have HF : Hid (V = runV none) := by show _ = _; rw [← HV.out, ← Hl.out, Hs.out.done_ hlt]; rfl
      rw [← put_self Q_1]
      go_wp2_with fail
      refine bodyPost_ret (v := .tuple #[zeroU.val, .bool false]) (by simp [results, Try.results40, go_sem, L_1]) rfl ?_
      rw [HF.out]
      exact gives_of rfl (by go_light; (repeat' (first | (with_reducible exact Below.refl _ _) | (with_reducible exact Nat.le_refl _) | (with_reducible assumption) | (with_reducible refine below_step ?_ ?_ hr) | (with_reducible refine below_over ?_ ?_ _) | (with_reducible refine Below.alloc ?_ ?_ _) | (with_reducible refine Below.setCell ?_ ?_ _) | (with_reducible refine below_put ?_ ?_ _) | (with_reducible refine Below.drew ?_) | (with_reducible refine below_drewN_ ?_ _) | (with_reducible refine le_drewN ?_ _) | (with_reducible refine over_le _ _ _ ?_) | (with_reducible refine le_alloc ?_ _) | (with_reducible refine le_setCell ?_ _ _) | (with_reducible refine le_put ?_ _ _) | (with_reducible refine le_drew ?_) | dsimp only | omega | ((try simp only [World.size_alloc, World.size_setCell, World.size_drew, size_put]); omega) | (simp; done))))
set_option maxRecDepth 100000 in
set_option maxHeartbeats 3200000 in
theorem ref10_Run (m : MP) (id : Int) (w : World) (hm : m.at_ w) : Calls Try.prog 42 #[m.val, .int .i64 id] w (Gives (runV (findU id m.runs)) w) := by
  obtain ⟨sn, sl, ⟨A, n, c⟩, sb, nodes, lifts, es, bases⟩ := m
  have Hs := Lib.hid hm.runs
  have hmax : n ≤ 9223372036854775807 := hm.runs.bound
  clear hm
  generalize hV : runV (findU id es) = V
  have HV := Lib.hid hV
  clear hV
  simp only [MP.val]
  (go_enter Try.func42, Try.ntmps42; try dsimp only [List.append])
  go_wp2_with fail
  refine wp_letter (fun w1 hb => ?_)
  have hz := hb.size
  (try simp only [World.size_alloc, World.size_setCell, World.size_drew, size_put] at hz)
  have hB : Below w.heap.size w w1 := below_step (by (repeat' (first | (with_reducible exact Below.refl _ _) | (with_reducible exact Nat.le_refl _) | (with_reducible assumption) | (with_reducible refine below_step ?_ ?_ hr) | (with_reducible refine below_over ?_ ?_ _) | (with_reducible refine Below.alloc ?_ ?_ _) | (with_reducible refine Below.setCell ?_ ?_ _) | (with_reducible refine below_put ?_ ?_ _) | (with_reducible refine Below.drew ?_) | (with_reducible refine below_drewN_ ?_ _) | (with_reducible refine le_drewN ?_ _) | (with_reducible refine over_le _ _ _ ?_) | (with_reducible refine le_alloc ?_ _) | (with_reducible refine le_setCell ?_ _ _) | (with_reducible refine le_put ?_ _ _) | (with_reducible refine le_drew ?_) | dsimp only | omega | ((try simp only [World.size_alloc, World.size_setCell, World.size_drew, size_put]); omega) | (simp; done)))) (by (first | omega | ((try simp only [World.size_alloc, World.size_setCell, World.size_drew, size_put]); omega))) hb
  have Q' : w1.heap[w.heap.size]? = _ := hb.block (w.heap.size) (by (first | omega | ((try simp only [World.size_alloc, World.size_setCell, World.size_drew, size_put]); omega)))
  simp only [alloc_block_if, put_block_if, over_block_if, set_block_if, setObj_cells, drew_block, drewN_block, Option.map_some, List.setIfInBounds_toArray, List.set_cons_zero, List.set_cons_succ, World.size_alloc, World.size_setCell, size_put, World.size_drew, if_true, if_false, ↓IntWalk.iteOmega] at Q'
  have Q_0 := Q'
  clear Q'
  have Q' : w1.heap[w.heap.size + 1]? = _ := hb.block (w.heap.size + 1) (by (first | omega | ((try simp only [World.size_alloc, World.size_setCell, World.size_drew, size_put]); omega)))
  simp only [alloc_block_if, put_block_if, over_block_if, set_block_if, setObj_cells, drew_block, drewN_block, Option.map_some, List.setIfInBounds_toArray, List.set_cons_zero, List.set_cons_succ, World.size_alloc, World.size_setCell, size_put, World.size_drew, if_true, if_false, ↓IntWalk.iteOmega] at Q'
  have Q_1 := Q'
  clear Q'
  have q_0 := cell_of_block Q_0
  have q_1 := cell_of_block Q_1
  clear hb
  clear q_0 q_1
  go_loopw [6] (fun i wr => ∃ k : Nat, k ≤ n ∧ i = .int .i64 k ∧ Hid (findU id (es.drop k) = findU id es) ∧ Below w1.heap.size w1 wr) (fun i _ => n - (intOf i).toNat)
  case atStart => exact ⟨0, Nat.zero_le _, rfl, rfl, Below.refl _ _⟩
  case round =>
    obtain ⟨k, hk, rfl, Hl, hBr⟩ := hrel
    have hzr := hBr.size
    have hBw : Below w.heap.size w wr := hB.trans (hBr.mono (by omega))
    have Q_1 := (hBr.block _ (by omega)).trans Q_1
    have q_0 := cell_of_block ((hBr.block _ (by omega)).trans Q_0)
    have L_1 : w.heap.size + 1 < wr.heap.size := by omega
    by_cases hlt : k < n
    · obtain ⟨b, off, x, rfl, hbw, Hx, Hx0, hc0, hc1, hc2, hc3, hc4, hc5, hc6⟩ := Hs.out.ud hlt
      have e0 := (hBw.cell (p := ⟨b, _, none⟩) hbw).trans hc0
      have e1 := (hBw.cell (p := ⟨b, _, none⟩) hbw).trans hc1
      have e2 := (hBw.cell (p := ⟨b, _, none⟩) hbw).trans hc2
      have e3 := (hBw.cell (p := ⟨b, _, none⟩) hbw).trans hc3
      have e4 := (hBw.cell (p := ⟨b, _, none⟩) hbw).trans hc4
      have e5 := (hBw.cell (p := ⟨b, _, none⟩) hbw).trans hc5
      have e6 := (hBw.cell (p := ⟨b, _, none⟩) hbw).trans hc6
      clear hc0 hc1 hc2 hc3 hc4 hc5 hc6
      by_cases hid : x.id = id
      · have HF : Hid (V = runV (some x)) := by show _ = _; rw [← HV.out, ← Hl.out, Hx.out, findU, if_pos hid]
        have hidb : (x.id == id) = true := by simpa using hid
        have hne : ¬ b = w.heap.size + 1 := by omega
        have hne2 : ¬ w.heap.size = w.heap.size + 1 := by omega
        clear hid
        rw [← put_self Q_1]
        go_wp2_with fail
        refine bodyPost_ret (v := .tuple #[x.val, .bool true]) (by simp [results, Try.results42, go_sem, L_1, hne, hne2]) rfl ?_
        rw [HF.out]
        exact gives_of rfl (by go_light; (repeat' (first | (with_reducible exact Below.refl _ _) | (with_reducible exact Nat.le_refl _) | (with_reducible assumption) | (with_reducible refine below_step ?_ ?_ hr) | (with_reducible refine below_over ?_ ?_ _) | (with_reducible refine Below.alloc ?_ ?_ _) | (with_reducible refine Below.setCell ?_ ?_ _) | (with_reducible refine below_put ?_ ?_ _) | (with_reducible refine Below.drew ?_) | (with_reducible refine below_drewN_ ?_ _) | (with_reducible refine le_drewN ?_ _) | (with_reducible refine over_le _ _ _ ?_) | (with_reducible refine le_alloc ?_ _) | (with_reducible refine le_setCell ?_ _ _) | (with_reducible refine le_put ?_ _ _) | (with_reducible refine le_drew ?_) | dsimp only | omega | ((try simp only [World.size_alloc, World.size_setCell, World.size_drew, size_put]); omega) | (simp; done))))
      · have hidb : (x.id == id) = false := by simpa using hid
        have HE : Hid (findU id (es.drop (k + 1)) = findU id es) := by show _ = _; rw [← Hl.out, Hx.out, findU, if_neg hid]
        clear hid
        go_wp2_with fail
        go_roundw
        case rel => exact ⟨k + 1, by omega, by go_num, HE, by go_light; (repeat' (first | (with_reducible exact Below.refl _ _) | (with_reducible exact Nat.le_refl _) | (with_reducible assumption) | (with_reducible refine below_step ?_ ?_ hr) | (with_reducible refine below_over ?_ ?_ _) | (with_reducible refine Below.alloc ?_ ?_ _) | (with_reducible refine Below.setCell ?_ ?_ _) | (with_reducible refine below_put ?_ ?_ _) | (with_reducible refine Below.drew ?_) | (with_reducible refine below_drewN_ ?_ _) | (with_reducible refine le_drewN ?_ _) | (with_reducible refine over_le _ _ _ ?_) | (with_reducible refine le_alloc ?_ _) | (with_reducible refine le_setCell ?_ _ _) | (with_reducible refine le_put ?_ _ _) | (with_reducible refine le_drew ?_) | dsimp only | omega | ((try simp only [World.size_alloc, World.size_setCell, World.size_drew, size_put]); omega) | (simp; done)))⟩
        case measure => (simp [intOf] <;> omega)
    · have HF : Hid (V = runV none) := by show _ = _; rw [← HV.out, ← Hl.out, Hs.out.done_ hlt]; rfl
      have hne2 : ¬ w.heap.size = w.heap.size + 1 := by omega
      rw [← put_self Q_1]
      go_wp2_with fail
      refine bodyPost_ret (v := .tuple #[zeroU.val, .bool false]) (by simp [results, Try.results42, go_sem, L_1]) rfl ?_
      rw [HF.out]
      exact gives_of rfl (by go_light; (repeat' (first | (with_reducible exact Below.refl _ _) | (with_reducible exact Nat.le_refl _) | (with_reducible assumption) | (with_reducible refine below_step ?_ ?_ hr) | (with_reducible refine below_over ?_ ?_ _) | (with_reducible refine Below.alloc ?_ ?_ _) | (with_reducible refine Below.setCell ?_ ?_ _) | (with_reducible refine below_put ?_ ?_ _) | (with_reducible refine Below.drew ?_) | (with_reducible refine below_drewN_ ?_ _) | (with_reducible refine le_drewN ?_ _) | (with_reducible refine over_le _ _ _ ?_) | (with_reducible refine le_alloc ?_ _) | (with_reducible refine le_setCell ?_ _ _) | (with_reducible refine le_put ?_ _ _) | (with_reducible refine le_drew ?_) | dsimp only | omega | ((try simp only [World.size_alloc, World.size_setCell, World.size_drew, size_put]); omega) | (simp; done))))
/-! closed. -/
def hitC (kind target : Int) (c : CV) : Bool := c.kind == kind && c.target == target
def idxC (kind target : Int) : List CV → Int → Int
  | [], _ => -1
  | c :: r, k => if hitC kind target c = true then k else idxC kind target r (k + 1)
def closedF (kind target : Int) (xs : List CV) : Bool := xs.any (hitC kind target)
theorem idxC_any (kind target : Int) : ∀ (xs : List CV) (k : Int), 0 ≤ k → decide (0 ≤ idxC kind target xs k) = closedF kind target xs
  | [], _, _ => rfl
  | c :: r, k, hk => by
    have ih := idxC_any kind target r (k + 1) (by omega)
    unfold idxC
    unfold closedF at ih ⊢
    rw [List.any_cons]
    split
    · rename_i h; simp [h, hk]
    · rename_i h; rw [ih]; simp [h]
abbrev intB (v : Int) : Obj := .cells #[.int .i64 v] 3
abbrev closedV (B C : Nat) : Value := .func (.func 52) #[] #[.pointer (some ⟨B, 0, none⟩), .pointer (some ⟨C, 0, none⟩)]
set_option maxRecDepth 100000 in
set_option maxHeartbeats 800000 in
theorem closure_closed1 (c : CV) (kind target : Int) (B C : Nat) (w : World) (hB : w.heap[B]? = some (intB kind)) (hC : w.heap[C]? = some (intB target)) : Calls Try.prog 52 #[c.val, .pointer (some ⟨B, 0, none⟩), .pointer (some ⟨C, 0, none⟩)] w (Gives (.bool (hitC kind target c)) w) := by
  have qB := cell_of_block hB
  have qC := cell_of_block hC
  have hlt : B < w.heap.size := (Array.getElem?_eq_some_iff.1 hB).1
  have hlt2 : C < w.heap.size := (Array.getElem?_eq_some_iff.1 hC).1
  clear hB hC
  cases h1 : (c.kind == kind)
  · have HE : Hid (hitC kind target c = false) := by show _ = _; rw [hitC, h1]; rfl
    rw [HE.out]
    (go_enter Try.func52, Try.ntmps52; try dsimp only [List.append])
    go_wp2_with fail
    go_ret
    exact gives_of rfl (by go_light; (repeat' (first | (with_reducible exact Below.refl _ _) | (with_reducible exact Nat.le_refl _) | (with_reducible assumption) | (with_reducible refine below_step ?_ ?_ hr) | (with_reducible refine below_over ?_ ?_ _) | (with_reducible refine Below.alloc ?_ ?_ _) | (with_reducible refine Below.setCell ?_ ?_ _) | (with_reducible refine below_put ?_ ?_ _) | (with_reducible refine Below.drew ?_) | (with_reducible refine below_drewN_ ?_ _) | (with_reducible refine le_drewN ?_ _) | (with_reducible refine over_le _ _ _ ?_) | (with_reducible refine le_alloc ?_ _) | (with_reducible refine le_setCell ?_ _ _) | (with_reducible refine le_put ?_ _ _) | (with_reducible refine le_drew ?_) | dsimp only | omega | ((try simp only [World.size_alloc, World.size_setCell, World.size_drew, size_put]); omega) | (simp; done))))
  · have HE : Hid (hitC kind target c = (c.target == target)) := by show _ = _; rw [hitC, h1]; rfl
    rw [HE.out]
    (go_enter Try.func52, Try.ntmps52; try dsimp only [List.append])
    go_wp2_with fail
    go_ret
    exact gives_of rfl (by go_light; (repeat' (first | (with_reducible exact Below.refl _ _) | (with_reducible exact Nat.le_refl _) | (with_reducible assumption) | (with_reducible refine below_step ?_ ?_ hr) | (with_reducible refine below_over ?_ ?_ _) | (with_reducible refine Below.alloc ?_ ?_ _) | (with_reducible refine Below.setCell ?_ ?_ _) | (with_reducible refine below_put ?_ ?_ _) | (with_reducible refine Below.drew ?_) | (with_reducible refine below_drewN_ ?_ _) | (with_reducible refine le_drewN ?_ _) | (with_reducible refine over_le _ _ _ ?_) | (with_reducible refine le_alloc ?_ _) | (with_reducible refine le_setCell ?_ _ _) | (with_reducible refine le_put ?_ _ _) | (with_reducible refine le_drew ?_) | dsimp only | omega | ((try simp only [World.size_alloc, World.size_setCell, World.size_drew, size_put]); omega) | (simp; done))))
set_option maxRecDepth 100000 in
set_option maxHeartbeats 1600000 in
theorem index_closed (s : Sl) (xs : List CV) (kind target : Int) (B C : Nat) (w : World) (hr : Rd w CV.enc s xs) (hB : w.heap[B]? = some (intB kind)) (hC : w.heap[C]? = some (intB target)) : Calls Try.prog 43 #[s.val, closedV B C] w (Gives (.int .i64 (idxC kind target xs 0)) w) := by
  obtain ⟨A, n, c⟩ := s
  have Hr := Lib.hid hr
  have HB := Lib.hid hB
  have HC := Lib.hid hC
  have hltB : B < w.heap.size := (Array.getElem?_eq_some_iff.1 hB).1
  have hltC : C < w.heap.size := (Array.getElem?_eq_some_iff.1 hC).1
  have hmax : n ≤ 9223372036854775807 := Hr.out.bound
  clear hB hC hr
  generalize hV : idxC kind target xs 0 = V
  have HV := Lib.hid hV
  clear hV
  simp only [Sl.val, closedV]
  (go_enter Try.func43, Try.ntmps43; try dsimp only [List.append])
  go_wp2_with fail
  go_loopw [5, 8] (fun _ i wr => ∃ k : Nat, k ≤ n ∧ i = .int .i64 k ∧ Hid (idxC kind target (xs.drop k) k = V) ∧ Below w.heap.size w wr) (fun _ i _ => n - (intOf i).toNat)
  case atStart => exact ⟨0, Nat.zero_le _, rfl, HV, Below.refl _ _⟩
  case round =>
    obtain ⟨k, hk, rfl, Hl, hBw⟩ := hrel
    have hzr := hBw.size
    by_cases hlk : k < n
    · obtain ⟨b, off, x, rfl, hbw, Hx, -, hc0, hc1, hc2, hc3⟩ := Hr.out.cv hlk
      have e0 := (hBw.cell (p := ⟨b, _, none⟩) hbw).trans hc0
      have e1 := (hBw.cell (p := ⟨b, _, none⟩) hbw).trans hc1
      have e2 := (hBw.cell (p := ⟨b, _, none⟩) hbw).trans hc2
      have e3 := (hBw.cell (p := ⟨b, _, none⟩) hbw).trans hc3
      clear hc0 hc1 hc2 hc3
      have Hc := Lib.hid (fun w' (h : Below w.heap.size w w') => closure_closed1 x kind target B C w' ((h.block _ hltB).trans HB.out) ((h.block _ hltC).trans HC.out))
      cases hh : hitC kind target x
      · have HE : Hid (idxC kind target (xs.drop (k + 1)) ((k + 1 : Nat) : Int) = V) := by show _ = _; rw [← Hl.out, Hx.out, idxC, if_neg (by rw [hh]; simp)]; simp
        rw [hh] at Hc
        clear hh
        go_wp2_with (go_at_call 52; refine (Hc.out _ (by (repeat' (first | (with_reducible exact Below.refl _ _) | (with_reducible exact Nat.le_refl _) | (with_reducible assumption) | (with_reducible refine below_step ?_ ?_ hr) | (with_reducible refine below_over ?_ ?_ _) | (with_reducible refine Below.alloc ?_ ?_ _) | (with_reducible refine Below.setCell ?_ ?_ _) | (with_reducible refine below_put ?_ ?_ _) | (with_reducible refine Below.drew ?_) | (with_reducible refine below_drewN_ ?_ _) | (with_reducible refine le_drewN ?_ _) | (with_reducible refine over_le _ _ _ ?_) | (with_reducible refine le_alloc ?_ _) | (with_reducible refine le_setCell ?_ _ _) | (with_reducible refine le_put ?_ _ _) | (with_reducible refine le_drew ?_) | dsimp only | omega | ((try simp only [World.size_alloc, World.size_setCell, World.size_drew, size_put]); omega) | (simp; done))))).mono ?_; rintro e w1 hg; obtain ⟨rfl, hb⟩ := hg.below; clear hg; have hz := hb.size; (try simp only [World.size_alloc, World.size_setCell, World.size_drew, size_put] at hz); have hB : Below w.heap.size w w1 := below_step (by (repeat' (first | (with_reducible exact Below.refl _ _) | (with_reducible exact Nat.le_refl _) | (with_reducible assumption) | (with_reducible refine below_step ?_ ?_ hr) | (with_reducible refine below_over ?_ ?_ _) | (with_reducible refine Below.alloc ?_ ?_ _) | (with_reducible refine Below.setCell ?_ ?_ _) | (with_reducible refine below_put ?_ ?_ _) | (with_reducible refine Below.drew ?_) | (with_reducible refine below_drewN_ ?_ _) | (with_reducible refine le_drewN ?_ _) | (with_reducible refine over_le _ _ _ ?_) | (with_reducible refine le_alloc ?_ _) | (with_reducible refine le_setCell ?_ _ _) | (with_reducible refine le_put ?_ _ _) | (with_reducible refine le_drew ?_) | dsimp only | omega | ((try simp only [World.size_alloc, World.size_setCell, World.size_drew, size_put]); omega) | (simp; done)))) (by (first | omega | ((try simp only [World.size_alloc, World.size_setCell, World.size_drew, size_put]); omega))) hb; clear hb)
        go_roundw
        case rel => exact ⟨k + 1, by omega, by go_num, HE, by go_light; (repeat' (first | (with_reducible exact Below.refl _ _) | (with_reducible exact Nat.le_refl _) | (with_reducible assumption) | (with_reducible refine below_step ?_ ?_ hr) | (with_reducible refine below_over ?_ ?_ _) | (with_reducible refine Below.alloc ?_ ?_ _) | (with_reducible refine Below.setCell ?_ ?_ _) | (with_reducible refine below_put ?_ ?_ _) | (with_reducible refine Below.drew ?_) | (with_reducible refine below_drewN_ ?_ _) | (with_reducible refine le_drewN ?_ _) | (with_reducible refine over_le _ _ _ ?_) | (with_reducible refine le_alloc ?_ _) | (with_reducible refine le_setCell ?_ _ _) | (with_reducible refine le_put ?_ _ _) | (with_reducible refine le_drew ?_) | dsimp only | omega | ((try simp only [World.size_alloc, World.size_setCell, World.size_drew, size_put]); omega) | (simp; done)))⟩
        case measure => (simp [intOf] <;> omega)
      · have HE : Hid (V = (k : Int)) := by show _ = _; rw [← Hl.out, Hx.out, idxC, if_pos hh]
        rw [hh] at Hc
        clear hh
        go_wp2_with (go_at_call 52; refine (Hc.out _ (by (repeat' (first | (with_reducible exact Below.refl _ _) | (with_reducible exact Nat.le_refl _) | (with_reducible assumption) | (with_reducible refine below_step ?_ ?_ hr) | (with_reducible refine below_over ?_ ?_ _) | (with_reducible refine Below.alloc ?_ ?_ _) | (with_reducible refine Below.setCell ?_ ?_ _) | (with_reducible refine below_put ?_ ?_ _) | (with_reducible refine Below.drew ?_) | (with_reducible refine below_drewN_ ?_ _) | (with_reducible refine le_drewN ?_ _) | (with_reducible refine over_le _ _ _ ?_) | (with_reducible refine le_alloc ?_ _) | (with_reducible refine le_setCell ?_ _ _) | (with_reducible refine le_put ?_ _ _) | (with_reducible refine le_drew ?_) | dsimp only | omega | ((try simp only [World.size_alloc, World.size_setCell, World.size_drew, size_put]); omega) | (simp; done))))).mono ?_; rintro e w1 hg; obtain ⟨rfl, hb⟩ := hg.below; clear hg; have hz := hb.size; (try simp only [World.size_alloc, World.size_setCell, World.size_drew, size_put] at hz); have hB : Below w.heap.size w w1 := below_step (by (repeat' (first | (with_reducible exact Below.refl _ _) | (with_reducible exact Nat.le_refl _) | (with_reducible assumption) | (with_reducible refine below_step ?_ ?_ hr) | (with_reducible refine below_over ?_ ?_ _) | (with_reducible refine Below.alloc ?_ ?_ _) | (with_reducible refine Below.setCell ?_ ?_ _) | (with_reducible refine below_put ?_ ?_ _) | (with_reducible refine Below.drew ?_) | (with_reducible refine below_drewN_ ?_ _) | (with_reducible refine le_drewN ?_ _) | (with_reducible refine over_le _ _ _ ?_) | (with_reducible refine le_alloc ?_ _) | (with_reducible refine le_setCell ?_ _ _) | (with_reducible refine le_put ?_ _ _) | (with_reducible refine le_drew ?_) | dsimp only | omega | ((try simp only [World.size_alloc, World.size_setCell, World.size_drew, size_put]); omega) | (simp; done)))) (by (first | omega | ((try simp only [World.size_alloc, World.size_setCell, World.size_drew, size_put]); omega))) hb; clear hb)
        go_ret
        exact gives_of (ret_int HE.out.symm) (by go_light; (repeat' (first | (with_reducible exact Below.refl _ _) | (with_reducible exact Nat.le_refl _) | (with_reducible assumption) | (with_reducible refine below_step ?_ ?_ hr) | (with_reducible refine below_over ?_ ?_ _) | (with_reducible refine Below.alloc ?_ ?_ _) | (with_reducible refine Below.setCell ?_ ?_ _) | (with_reducible refine below_put ?_ ?_ _) | (with_reducible refine Below.drew ?_) | (with_reducible refine below_drewN_ ?_ _) | (with_reducible refine le_drewN ?_ _) | (with_reducible refine over_le _ _ _ ?_) | (with_reducible refine le_alloc ?_ _) | (with_reducible refine le_setCell ?_ _ _) | (with_reducible refine le_put ?_ _ _) | (with_reducible refine le_drew ?_) | dsimp only | omega | ((try simp only [World.size_alloc, World.size_setCell, World.size_drew, size_put]); omega) | (simp; done))))
    · have HE : Hid (V = -1) := by show _ = _; rw [← Hl.out, Hr.out.done_ hlk]; rfl
      go_wp2_with fail
      go_ret
      exact gives_of (ret_int HE.out.symm) (by go_light; (repeat' (first | (with_reducible exact Below.refl _ _) | (with_reducible exact Nat.le_refl _) | (with_reducible assumption) | (with_reducible refine below_step ?_ ?_ hr) | (with_reducible refine below_over ?_ ?_ _) | (with_reducible refine Below.alloc ?_ ?_ _) | (with_reducible refine Below.setCell ?_ ?_ _) | (with_reducible refine below_put ?_ ?_ _) | (with_reducible refine Below.drew ?_) | (with_reducible refine below_drewN_ ?_ _) | (with_reducible refine le_drewN ?_ _) | (with_reducible refine over_le _ _ _ ?_) | (with_reducible refine le_alloc ?_ _) | (with_reducible refine le_setCell ?_ _ _) | (with_reducible refine le_put ?_ _ _) | (with_reducible refine le_drew ?_) | dsimp only | omega | ((try simp only [World.size_alloc, World.size_setCell, World.size_drew, size_put]); omega) | (simp; done))))
set_option maxRecDepth 100000 in
set_option maxHeartbeats 800000 in
theorem contains_closed (s : Sl) (xs : List CV) (kind target : Int) (B C : Nat) (w : World) (hr : Rd w CV.enc s xs) (hB : w.heap[B]? = some (intB kind)) (hC : w.heap[C]? = some (intB target)) : Calls Try.prog 51 #[s.val, closedV B C] w (Gives (.bool (closedF kind target xs)) w) := by
  have Hc := Lib.hid (index_closed s xs kind target B C w hr hB hC)
  rw [← idxC_any kind target xs 0 (Int.le_refl _)]
  obtain ⟨A, n, c⟩ := s
  clear hB hC hr
  generalize idxC kind target xs 0 = V at Hc ⊢
  simp only [Sl.val, closedV] at Hc ⊢
  (go_enter Try.func51, Try.ntmps51; try dsimp only [List.append])
  go_wp2_with fail
  refine (Hc.out).mono ?_
  rintro e w1 hg
  obtain ⟨rfl, hb⟩ := hg.below
  clear hg
  have hz := hb.size
  (try simp only [World.size_alloc, World.size_setCell, World.size_drew, size_put] at hz)
  have hB : Below w.heap.size w w1 := below_step (by (repeat' (first | (with_reducible exact Below.refl _ _) | (with_reducible exact Nat.le_refl _) | (with_reducible assumption) | (with_reducible refine below_step ?_ ?_ hr) | (with_reducible refine below_over ?_ ?_ _) | (with_reducible refine Below.alloc ?_ ?_ _) | (with_reducible refine Below.setCell ?_ ?_ _) | (with_reducible refine below_put ?_ ?_ _) | (with_reducible refine Below.drew ?_) | (with_reducible refine below_drewN_ ?_ _) | (with_reducible refine le_drewN ?_ _) | (with_reducible refine over_le _ _ _ ?_) | (with_reducible refine le_alloc ?_ _) | (with_reducible refine le_setCell ?_ _ _) | (with_reducible refine le_put ?_ _ _) | (with_reducible refine le_drew ?_) | dsimp only | omega | ((try simp only [World.size_alloc, World.size_setCell, World.size_drew, size_put]); omega) | (simp; done)))) (by (first | omega | ((try simp only [World.size_alloc, World.size_setCell, World.size_drew, size_put]); omega))) hb
  clear hb
  go_wp2_with fail
  go_ret
  exact gives_of rfl (by go_light; (repeat' (first | (with_reducible exact Below.refl _ _) | (with_reducible exact Nat.le_refl _) | (with_reducible assumption) | (with_reducible refine below_step ?_ ?_ hr) | (with_reducible refine below_over ?_ ?_ _) | (with_reducible refine Below.alloc ?_ ?_ _) | (with_reducible refine Below.setCell ?_ ?_ _) | (with_reducible refine below_put ?_ ?_ _) | (with_reducible refine Below.drew ?_) | (with_reducible refine below_drewN_ ?_ _) | (with_reducible refine le_drewN ?_ _) | (with_reducible refine over_le _ _ _ ?_) | (with_reducible refine le_alloc ?_ _) | (with_reducible refine le_setCell ?_ _ _) | (with_reducible refine le_put ?_ _ _) | (with_reducible refine le_drew ?_) | dsimp only | omega | ((try simp only [World.size_alloc, World.size_setCell, World.size_drew, size_put]); omega) | (simp; done))))
set_option maxRecDepth 100000 in
set_option maxHeartbeats 800000 in
theorem closure_closed (s : Sl) (xs : List CV) (kind target : Int) (w : World) (hr : Rd w CV.enc s xs) : Calls Try.prog 41 #[s.val, .int .i64 kind, .int .i64 target] w (Gives (.bool (closedF kind target xs)) w) := by
  have Hr := Lib.hid hr
  clear hr
  have hmf : ∀ (fn : Fn) (first cap : Array Value) (w : World), (Instr.makeFunc fn first cap).run Try.prog w = .ok (.func fn first cap) w := fun _ _ _ _ => rfl
  obtain ⟨A, n, c⟩ := s
  simp only [Sl.val]
  generalize hV : closedF kind target xs = V
  have HV := Lib.hid hV
  clear hV
  have Hc : Hid (∀ w', Below w.heap.size w w' → w'.heap[w.heap.size]? = some (intB kind) → w'.heap[w.heap.size + 1]? = some (intB target) → Calls Try.prog 51 #[.slice A n c, closedV w.heap.size (w.heap.size + 1)] w' (Gives (.bool V) w')) := fun w' h h2 h4 => by
    have h3 := contains_closed ⟨A, n, c⟩ xs kind target w.heap.size (w.heap.size + 1) w' (Hr.out.toW h) h2 h4
    rw [HV.out] at h3
    exact h3
  simp only [closedV] at Hc
  (go_enter Try.func41, Try.ntmps41; try dsimp only [List.append])
  go_wp2_with fail
  refine (Hc.out _ (by (repeat' (first | (with_reducible exact Below.refl _ _) | (with_reducible exact Nat.le_refl _) | (with_reducible assumption) | (with_reducible refine below_step ?_ ?_ hr) | (with_reducible refine below_over ?_ ?_ _) | (with_reducible refine Below.alloc ?_ ?_ _) | (with_reducible refine Below.setCell ?_ ?_ _) | (with_reducible refine below_put ?_ ?_ _) | (with_reducible refine Below.drew ?_) | (with_reducible refine below_drewN_ ?_ _) | (with_reducible refine le_drewN ?_ _) | (with_reducible refine over_le _ _ _ ?_) | (with_reducible refine le_alloc ?_ _) | (with_reducible refine le_setCell ?_ _ _) | (with_reducible refine le_put ?_ _ _) | (with_reducible refine le_drew ?_) | dsimp only | omega | ((try simp only [World.size_alloc, World.size_setCell, World.size_drew, size_put]); omega) | (simp; done)))) (by simp only [alloc_block_if, World.size_alloc, ↓IntWalk.iteOmega, if_true]) (by simp only [alloc_block_if, World.size_alloc, ↓IntWalk.iteOmega, if_true])).mono ?_
  rintro e w1 hg
  obtain ⟨rfl, hb⟩ := hg.below
  clear hg
  have hz := hb.size
  (try simp only [World.size_alloc, World.size_setCell, World.size_drew, size_put] at hz)
  have hB : Below w.heap.size w w1 := below_step (by (repeat' (first | (with_reducible exact Below.refl _ _) | (with_reducible exact Nat.le_refl _) | (with_reducible assumption) | (with_reducible refine below_step ?_ ?_ hr) | (with_reducible refine below_over ?_ ?_ _) | (with_reducible refine Below.alloc ?_ ?_ _) | (with_reducible refine Below.setCell ?_ ?_ _) | (with_reducible refine below_put ?_ ?_ _) | (with_reducible refine Below.drew ?_) | (with_reducible refine below_drewN_ ?_ _) | (with_reducible refine le_drewN ?_ _) | (with_reducible refine over_le _ _ _ ?_) | (with_reducible refine le_alloc ?_ _) | (with_reducible refine le_setCell ?_ _ _) | (with_reducible refine le_put ?_ _ _) | (with_reducible refine le_drew ?_) | dsimp only | omega | ((try simp only [World.size_alloc, World.size_setCell, World.size_drew, size_put]); omega) | (simp; done)))) (by (first | omega | ((try simp only [World.size_alloc, World.size_setCell, World.size_drew, size_put]); omega))) hb
  clear hb
  go_wp2_with fail
  go_ret
  exact gives_of rfl (by go_light; (repeat' (first | (with_reducible exact Below.refl _ _) | (with_reducible exact Nat.le_refl _) | (with_reducible assumption) | (with_reducible refine below_step ?_ ?_ hr) | (with_reducible refine below_over ?_ ?_ _) | (with_reducible refine Below.alloc ?_ ?_ _) | (with_reducible refine Below.setCell ?_ ?_ _) | (with_reducible refine below_put ?_ ?_ _) | (with_reducible refine Below.drew ?_) | (with_reducible refine below_drewN_ ?_ _) | (with_reducible refine le_drewN ?_ _) | (with_reducible refine over_le _ _ _ ?_) | (with_reducible refine le_alloc ?_ _) | (with_reducible refine le_setCell ?_ _ _) | (with_reducible refine le_put ?_ _ _) | (with_reducible refine le_drew ?_) | dsimp only | omega | ((try simp only [World.size_alloc, World.size_setCell, World.size_drew, size_put]); omega) | (simp; done))))
end Go.Proofs.Ytpckebhmdjhniaa
