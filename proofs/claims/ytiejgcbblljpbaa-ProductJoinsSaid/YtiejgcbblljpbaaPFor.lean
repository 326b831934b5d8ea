/- Products: For, of the program (with a closure) and of the reference. -/
import Derived.Test.YtiejgcbblljpbaaPFind
import Derived.Test.YtiejgcbblljpbaaOrdApp
namespace Go.Proofs.Ytiejgcbblljpbaa
set_option linter.unusedSimpArgs false
set_option linter.unusedVariables false
open Go.RowKit
def outL (ops : List Int) : List Int → Bool
  | [] => false
  | x :: r => if hasF ops x = true then outL ops r else true
def outI (ops : List Int) (k : Int) : List Int → Int
  | [] => -1
  | x :: r => if hasF ops x = true then outI ops (k + 1) r else k
theorem outI_has (ops : List Int) : ∀ (l : List Int) (k : Int), 0 ≤ k → decide (0 ≤ outI ops k l) = outL ops l
  | [], _, _ => rfl
  | x :: r, k, hk => by
    unfold outI outL
    split
    · exact outI_has ops r (k + 1) (by omega)
    · simp [hk]
def fitsF (age : Int) (os : List Int) (p : PD) : Bool := ageF p age && !outL p.ops os
def forF (age : Int) (os : List Int) (l : List PD) : List Int := (l.filter (fitsF age os)).map PD.id
theorem forF_take {age : Int} {os : List Int} {l : List PD} {k : Nat} {p : PD} (h : l[k]? = some p) : forF age os (l.take (k + 1)) = if fitsF age os p = true then forF age os (l.take k) ++ [p.id] else forF age os (l.take k) := by
  rw [List.take_add_one, h]
  unfold forF
  split <;> simp_all [List.filter_append]
theorem forF_len (age : Int) (os : List Int) (l : List PD) : (forF age os l).length ≤ l.length := by
  unfold forF; rw [List.length_map]; exact List.length_filter_le _ _
abbrev pdB (p : PD) : Obj := .cells #[.int .i64 p.id, .int .i64 p.kind, .int .i64 p.units, .int .i64 p.least, .int .i64 p.most, .slice p.so.a p.so.n p.so.c, .slice p.sh.a p.sh.n p.sh.c, .int .i64 p.sf, .int .i64 p.st, .int .i64 p.price] 32
abbrev outV (B : Nat) : Value := .func (.func 37) #[] #[.pointer (some ⟨B, 0, none⟩)]
set_option maxRecDepth 100000 in
set_option maxHeartbeats 400000 in
theorem product_For1 (p : PD) (o : Int) (B : Nat) (w : World) (hp : p.at_ w) (hB : w.heap[B]? = some (pdB p)) : Calls Try.prog 37 #[.int .i64 o, .pointer (some ⟨B, 0, none⟩)] w (Gives (.bool (!hasF p.ops o)) w) := by
  obtain ⟨pid, kind, units, least, most, ⟨A, n, c⟩, ⟨hA, hn, hc⟩, sf, st, price, xs, hours⟩ := p
  have Hp := Lib.hid hp
  have qB := cell_of_block hB
  have hlt : B < w.heap.size := (Array.getElem?_eq_some_iff.1 hB).1
  clear hp hB
  (go_enter Try.func37, Try.ntmps37; try dsimp only [List.append])
  go_wp2_with fail
  refine (product_Area ⟨pid, kind, units, least, most, ⟨A, n, c⟩, ⟨hA, hn, hc⟩, sf, st, price, xs, hours⟩ o _ (Hp.out.toW (by (repeat' (first | (with_reducible exact Below.refl _ _) | (with_reducible exact Nat.le_refl _) | (with_reducible assumption) | (with_reducible refine below_step ?_ ?_ hr) | (with_reducible refine below_over ?_ ?_ _) | (with_reducible refine Below.alloc ?_ ?_ _) | (with_reducible refine Below.setCell ?_ ?_ _) | (with_reducible refine below_put ?_ ?_ _) | (with_reducible refine Below.drew ?_) | (with_reducible refine below_drewN_ ?_ _) | (with_reducible refine le_drewN ?_ _) | (with_reducible refine over_le _ _ _ ?_) | (with_reducible refine le_alloc ?_ _) | (with_reducible refine le_setCell ?_ _ _) | (with_reducible refine le_put ?_ _ _) | (with_reducible refine le_drew ?_) | dsimp only | omega | ((try simp only [World.size_alloc, World.size_setCell, World.size_drew, size_put]); omega) | (simp; done)))))).mono ?_
  rintro e w1 hg
  obtain ⟨rfl, hb⟩ := hg.below
  clear hg
  have hz := hb.size
  (try simp only [World.size_alloc, World.size_setCell, World.size_drew, size_put] at hz)
  have hB : Below w.heap.size w w1 := below_step (by (repeat' (first | (with_reducible exact Below.refl _ _) | (with_reducible exact Nat.le_refl _) | (with_reducible assumption) | (with_reducible refine below_step ?_ ?_ hr) | (with_reducible refine below_over ?_ ?_ _) | (with_reducible refine Below.alloc ?_ ?_ _) | (with_reducible refine Below.setCell ?_ ?_ _) | (with_reducible refine below_put ?_ ?_ _) | (with_reducible refine Below.drew ?_) | (with_reducible refine below_drewN_ ?_ _) | (with_reducible refine le_drewN ?_ _) | (with_reducible refine over_le _ _ _ ?_) | (with_reducible refine le_alloc ?_ _) | (with_reducible refine le_setCell ?_ _ _) | (with_reducible refine le_put ?_ _ _) | (with_reducible refine le_drew ?_) | dsimp only | omega | ((try simp only [World.size_alloc, World.size_setCell, World.size_drew, size_put]); omega) | (simp; done)))) (by (first | omega | ((try simp only [World.size_alloc, World.size_setCell, World.size_drew, size_put]); omega))) hb
  clear hb
  go_wp2_with fail
  go_ret
  exact gives_of rfl (by go_light; (repeat' (first | (with_reducible exact Below.refl _ _) | (with_reducible exact Nat.le_refl _) | (with_reducible assumption) | (with_reducible refine below_step ?_ ?_ hr) | (with_reducible refine below_over ?_ ?_ _) | (with_reducible refine Below.alloc ?_ ?_ _) | (with_reducible refine Below.setCell ?_ ?_ _) | (with_reducible refine below_put ?_ ?_ _) | (with_reducible refine Below.drew ?_) | (with_reducible refine below_drewN_ ?_ _) | (with_reducible refine le_drewN ?_ _) | (with_reducible refine over_le _ _ _ ?_) | (with_reducible refine le_alloc ?_ _) | (with_reducible refine le_setCell ?_ _ _) | (with_reducible refine le_put ?_ _ _) | (with_reducible refine le_drew ?_) | dsimp only | omega | ((try simp only [World.size_alloc, World.size_setCell, World.size_drew, size_put]); omega) | (simp; done))))
set_option maxRecDepth 100000 in
set_option maxHeartbeats 800000 in
theorem indexOut (p : PD) (s : Sl) (xs : List Int) (B : Nat) (w : World) (hp : p.at_ w) (hB : w.heap[B]? = some (pdB p)) (hr : Rd w encI s xs) : Calls Try.prog 49 #[s.val, outV B] w (Gives (.int .i64 (outI p.ops 0 xs)) w) := by
  obtain ⟨A, n, c⟩ := s
  have Hp := Lib.hid hp
  have Hr := Lib.hid hr
  have HB := Lib.hid hB
  have hlt : B < w.heap.size := (Array.getElem?_eq_some_iff.1 hB).1
  have hmax : n ≤ 9223372036854775807 := Hr.out.bound
  clear hp hB hr
  generalize hV : outI p.ops 0 xs = V
  have HV := Lib.hid hV
  clear hV
  simp only [Sl.val, outV]
  (go_enter Try.func49, Try.ntmps49; try dsimp only [List.append])
  go_wp2_with fail
  go_loopw [5, 8] (fun _ i wr => ∃ k : Nat, k ≤ n ∧ i = .int .i64 k ∧ Hid (outI p.ops k (xs.drop k) = V) ∧ Below w.heap.size w wr) (fun _ i _ => n - (intOf i).toNat)
  case atStart => exact ⟨0, Nat.zero_le _, rfl, HV, Below.refl _ _⟩
  case round =>
    obtain ⟨k, hk, rfl, Hl, hBw⟩ := hrel
    have hzr := hBw.size
    by_cases hlk : k < n
    · obtain ⟨b, off, x, rfl, hbw, Hx, -, hc0⟩ := Hr.out.int hlk
      have e0 := (hBw.cell (p := ⟨b, _, none⟩) hbw).trans hc0
      clear hc0
      cases hh : hasF p.ops x
      · have HE : Hid (V = (k : Int)) := by show _ = _; rw [← Hl.out, Hx.out, outI, if_neg (by rw [hh]; simp)]
        have Hc := Lib.hid (fun w' (h : Below w.heap.size w w') => hh ▸ product_For1 p x B w' (Hp.out.toW h) ((h.block _ hlt).trans HB.out))
        clear hh
        go_wp2_with (go_at_call 37; refine (Hc.out _ (by (repeat' (first | (with_reducible exact Below.refl _ _) | (with_reducible exact Nat.le_refl _) | (with_reducible assumption) | (with_reducible refine below_step ?_ ?_ hr) | (with_reducible refine below_over ?_ ?_ _) | (with_reducible refine Below.alloc ?_ ?_ _) | (with_reducible refine Below.setCell ?_ ?_ _) | (with_reducible refine below_put ?_ ?_ _) | (with_reducible refine Below.drew ?_) | (with_reducible refine below_drewN_ ?_ _) | (with_reducible refine le_drewN ?_ _) | (with_reducible refine over_le _ _ _ ?_) | (with_reducible refine le_alloc ?_ _) | (with_reducible refine le_setCell ?_ _ _) | (with_reducible refine le_put ?_ _ _) | (with_reducible refine le_drew ?_) | dsimp only | omega | ((try simp only [World.size_alloc, World.size_setCell, World.size_drew, size_put]); omega) | (simp; done))))).mono ?_; rintro e w1 hg; obtain ⟨rfl, hb⟩ := hg.below; clear hg; have hz := hb.size; (try simp only [World.size_alloc, World.size_setCell, World.size_drew, size_put] at hz); have hB : Below w.heap.size w w1 := below_step (by (repeat' (first | (with_reducible exact Below.refl _ _) | (with_reducible exact Nat.le_refl _) | (with_reducible assumption) | (with_reducible refine below_step ?_ ?_ hr) | (with_reducible refine below_over ?_ ?_ _) | (with_reducible refine Below.alloc ?_ ?_ _) | (with_reducible refine Below.setCell ?_ ?_ _) | (with_reducible refine below_put ?_ ?_ _) | (with_reducible refine Below.drew ?_) | (with_reducible refine below_drewN_ ?_ _) | (with_reducible refine le_drewN ?_ _) | (with_reducible refine over_le _ _ _ ?_) | (with_reducible refine le_alloc ?_ _) | (with_reducible refine le_setCell ?_ _ _) | (with_reducible refine le_put ?_ _ _) | (with_reducible refine le_drew ?_) | dsimp only | omega | ((try simp only [World.size_alloc, World.size_setCell, World.size_drew, size_put]); omega) | (simp; done)))) (by (first | omega | ((try simp only [World.size_alloc, World.size_setCell, World.size_drew, size_put]); omega))) hb; clear hb)
        go_ret
        exact gives_of (ret_int HE.out.symm) (by go_light; (repeat' (first | (with_reducible exact Below.refl _ _) | (with_reducible exact Nat.le_refl _) | (with_reducible assumption) | (with_reducible refine below_step ?_ ?_ hr) | (with_reducible refine below_over ?_ ?_ _) | (with_reducible refine Below.alloc ?_ ?_ _) | (with_reducible refine Below.setCell ?_ ?_ _) | (with_reducible refine below_put ?_ ?_ _) | (with_reducible refine Below.drew ?_) | (with_reducible refine below_drewN_ ?_ _) | (with_reducible refine le_drewN ?_ _) | (with_reducible refine over_le _ _ _ ?_) | (with_reducible refine le_alloc ?_ _) | (with_reducible refine le_setCell ?_ _ _) | (with_reducible refine le_put ?_ _ _) | (with_reducible refine le_drew ?_) | dsimp only | omega | ((try simp only [World.size_alloc, World.size_setCell, World.size_drew, size_put]); omega) | (simp; done))))
      · have HE : Hid (outI p.ops ((k + 1 : Nat) : Int) (xs.drop (k + 1)) = V) := by show _ = _; rw [← Hl.out, Hx.out, outI, if_pos hh]; simp
        have Hc := Lib.hid (fun w' (h : Below w.heap.size w w') => hh ▸ product_For1 p x B w' (Hp.out.toW h) ((h.block _ hlt).trans HB.out))
        clear hh
        go_wp2_with (go_at_call 37; refine (Hc.out _ (by (repeat' (first | (with_reducible exact Below.refl _ _) | (with_reducible exact Nat.le_refl _) | (with_reducible assumption) | (with_reducible refine below_step ?_ ?_ hr) | (with_reducible refine below_over ?_ ?_ _) | (with_reducible refine Below.alloc ?_ ?_ _) | (with_reducible refine Below.setCell ?_ ?_ _) | (with_reducible refine below_put ?_ ?_ _) | (with_reducible refine Below.drew ?_) | (with_reducible refine below_drewN_ ?_ _) | (with_reducible refine le_drewN ?_ _) | (with_reducible refine over_le _ _ _ ?_) | (with_reducible refine le_alloc ?_ _) | (with_reducible refine le_setCell ?_ _ _) | (with_reducible refine le_put ?_ _ _) | (with_reducible refine le_drew ?_) | dsimp only | omega | ((try simp only [World.size_alloc, World.size_setCell, World.size_drew, size_put]); omega) | (simp; done))))).mono ?_; rintro e w1 hg; obtain ⟨rfl, hb⟩ := hg.below; clear hg; have hz := hb.size; (try simp only [World.size_alloc, World.size_setCell, World.size_drew, size_put] at hz); have hB : Below w.heap.size w w1 := below_step (by (repeat' (first | (with_reducible exact Below.refl _ _) | (with_reducible exact Nat.le_refl _) | (with_reducible assumption) | (with_reducible refine below_step ?_ ?_ hr) | (with_reducible refine below_over ?_ ?_ _) | (with_reducible refine Below.alloc ?_ ?_ _) | (with_reducible refine Below.setCell ?_ ?_ _) | (with_reducible refine below_put ?_ ?_ _) | (with_reducible refine Below.drew ?_) | (with_reducible refine below_drewN_ ?_ _) | (with_reducible refine le_drewN ?_ _) | (with_reducible refine over_le _ _ _ ?_) | (with_reducible refine le_alloc ?_ _) | (with_reducible refine le_setCell ?_ _ _) | (with_reducible refine le_put ?_ _ _) | (with_reducible refine le_drew ?_) | dsimp only | omega | ((try simp only [World.size_alloc, World.size_setCell, World.size_drew, size_put]); omega) | (simp; done)))) (by (first | omega | ((try simp only [World.size_alloc, World.size_setCell, World.size_drew, size_put]); omega))) hb; clear hb)
        go_roundw
        case rel => exact ⟨k + 1, by omega, by go_num, HE, by go_light; (repeat' (first | (with_reducible exact Below.refl _ _) | (with_reducible exact Nat.le_refl _) | (with_reducible assumption) | (with_reducible refine below_step ?_ ?_ hr) | (with_reducible refine below_over ?_ ?_ _) | (with_reducible refine Below.alloc ?_ ?_ _) | (with_reducible refine Below.setCell ?_ ?_ _) | (with_reducible refine below_put ?_ ?_ _) | (with_reducible refine Below.drew ?_) | (with_reducible refine below_drewN_ ?_ _) | (with_reducible refine le_drewN ?_ _) | (with_reducible refine over_le _ _ _ ?_) | (with_reducible refine le_alloc ?_ _) | (with_reducible refine le_setCell ?_ _ _) | (with_reducible refine le_put ?_ _ _) | (with_reducible refine le_drew ?_) | dsimp only | omega | ((try simp only [World.size_alloc, World.size_setCell, World.size_drew, size_put]); omega) | (simp; done)))⟩
        case measure => (simp [intOf] <;> omega)
    · have HE : Hid (V = -1) := by show _ = _; rw [← Hl.out, Hr.out.done_ hlk]; rfl
      go_wp2_with fail
      go_ret
      exact gives_of (ret_int HE.out.symm) (by go_light; (repeat' (first | (with_reducible exact Below.refl _ _) | (with_reducible exact Nat.le_refl _) | (with_reducible assumption) | (with_reducible refine below_step ?_ ?_ hr) | (with_reducible refine below_over ?_ ?_ _) | (with_reducible refine Below.alloc ?_ ?_ _) | (with_reducible refine Below.setCell ?_ ?_ _) | (with_reducible refine below_put ?_ ?_ _) | (with_reducible refine Below.drew ?_) | (with_reducible refine below_drewN_ ?_ _) | (with_reducible refine le_drewN ?_ _) | (with_reducible refine over_le _ _ _ ?_) | (with_reducible refine le_alloc ?_ _) | (with_reducible refine le_setCell ?_ _ _) | (with_reducible refine le_put ?_ _ _) | (with_reducible refine le_drew ?_) | dsimp only | omega | ((try simp only [World.size_alloc, World.size_setCell, World.size_drew, size_put]); omega) | (simp; done))))
set_option maxRecDepth 100000 in
set_option maxHeartbeats 400000 in
theorem containsOut (p : PD) (s : Sl) (xs : List Int) (B : Nat) (w : World) (hp : p.at_ w) (hB : w.heap[B]? = some (pdB p)) (hr : Rd w encI s xs) : Calls Try.prog 38 #[s.val, outV B] w (Gives (.bool (outL p.ops xs)) w) := by
  have Hc := Lib.hid (indexOut p s xs B w hp hB hr)
  rw [← outI_has p.ops xs 0 (Int.le_refl _)]
  obtain ⟨A, n, c⟩ := s
  clear hp hB hr
  generalize outI p.ops 0 xs = V at Hc ⊢
  simp only [Sl.val, outV] at Hc ⊢
  (go_enter Try.func38, Try.ntmps38; try dsimp only [List.append])
  go_wp2_with fail
  refine (Hc.out).mono ?_
  rintro e w1 hg
  obtain ⟨rfl, hb⟩ := hg.below
  clear hg
  have hz := hb.size
  (try simp only [World.size_alloc, World.size_setCell, World.size_drew, size_put] at hz)
  have hB : Below w.heap.size w w1 := below_step (by (repeat' (first | (with_reducible exact Below.refl _ _) | (with_reducible exact Nat.le_refl _) | (with_reducible assumption) | (with_reducible refine below_step ?_ ?_ hr) | (with_reducible refine below_over ?_ ?_ _) | (with_reducible refine Below.alloc ?_ ?_ _) | (with_reducible refine Below.setCell ?_ ?_ _) | (with_reducible refine below_put ?_ ?_ _) | (with_reducible refine Below.drew ?_) | (with_reducible refine below_drewN_ ?_ _) | (with_reducible refine le_drewN ?_ _) | (with_reducible refine over_le _ _ _ ?_) | (with_reducible refine le_alloc ?_ _) | (with_reducible refine le_setCell ?_ _ _) | (with_reducible refine le_put ?_ _ _) | (with_reducible refine le_drew ?_) | dsimp only | omega | ((try simp only [World.size_alloc, World.size_setCell, World.size_drew, size_put]); omega) | (simp; done)))) (by (first | omega | ((try simp only [World.size_alloc, World.size_setCell, World.size_drew, size_put]); omega))) hb
  clear hb
  go_wp2_with fail
  go_ret
  exact gives_of rfl (by go_light; (repeat' (first | (with_reducible exact Below.refl _ _) | (with_reducible exact Nat.le_refl _) | (with_reducible assumption) | (with_reducible refine below_step ?_ ?_ hr) | (with_reducible refine below_over ?_ ?_ _) | (with_reducible refine Below.alloc ?_ ?_ _) | (with_reducible refine Below.setCell ?_ ?_ _) | (with_reducible refine below_put ?_ ?_ _) | (with_reducible refine Below.drew ?_) | (with_reducible refine below_drewN_ ?_ _) | (with_reducible refine le_drewN ?_ _) | (with_reducible refine over_le _ _ _ ?_) | (with_reducible refine le_alloc ?_ _) | (with_reducible refine le_setCell ?_ _ _) | (with_reducible refine le_put ?_ _ _) | (with_reducible refine le_drew ?_) | dsimp only | omega | ((try simp only [World.size_alloc, World.size_setCell, World.size_drew, size_put]); omega) | (simp; done))))
def ForPost (xs : List Int) (w : World) (e : Ending) (w' : World) : Prop := Below w.heap.size w w' ∧ ∃ v : Sl, e = .returned v.val ∧ OwnI w' w.heap.size v xs
set_option maxRecDepth 100000 in
set_option maxHeartbeats 8000000 in
theorem product_For (s : Sl) (es : List PD) (age : Int) (z : Sl) (os : List Int) (w : World) (hs : Rd w PD.enc s es) (he : ∀ p ∈ es, p.at_ w) (hn : s.n ≤ 1000) (hz : Rd w encI z os) : Calls Try.prog 23 #[s.val, .int .i64 age, z.val] w (ForPost (forF age os es) w) := by
  obtain ⟨A, n, c⟩ := s
  obtain ⟨zA, zn, zc⟩ := z
  dsimp only at hn
  have Hs := Lib.hid hs
  have He := Lib.hid he
  have Hz := Lib.hid hz
  have Hn : Hid (es.length = n) := Hs.out.len
  clear hs he hz
  generalize hV : ForPost (forF age os es) w = P
  have HP := Lib.hid hV
  clear hV
  simp only [Sl.val]
  have hmf : ∀ (fn : Fn) (first cap : Array Value) (w : World), (Instr.makeFunc fn first cap).run Try.prog w = .ok (.func fn first cap) w := fun _ _ _ _ => rfl
  (go_enter Try.func23, Try.ntmps23; try dsimp only [List.append])
  go_wp2_with fail
  go_loopw [7, 13] (fun u i wr => ∃ (k : Nat) (v : Sl) (acc : List Int), k ≤ n ∧ i = .int .i64 k ∧ u = v.val ∧ Hid (acc = forF age os (es.take k)) ∧ Hid (OwnI wr w.heap.size v acc) ∧ Below w.heap.size w wr) (fun _ i _ => n - (intOf i).toNat)
  case atStart => exact ⟨0, ⟨none, 0, 0⟩, [], Nat.zero_le _, rfl, rfl, rfl, Own.nil_ _ _ _ _ _, Below.refl _ _⟩
  case round =>
    obtain ⟨k, v, acc, hk, rfl, rfl, HA, HO, hBw⟩ := hrel
    have hzr := hBw.size
    by_cases hlt : k < n
    · obtain ⟨b, off, x, rfl, hbw, -, Hx0, hc0, hc1, hc2, hc3, hc4, hc5, hc6, hc7, hc8, hc9⟩ := Hs.out.pd hlt
      have e0 := (hBw.cell (p := ⟨b, _, none⟩) hbw).trans hc0
      have e1 := (hBw.cell (p := ⟨b, _, none⟩) hbw).trans hc1
      have e2 := (hBw.cell (p := ⟨b, _, none⟩) hbw).trans hc2
      have e3 := (hBw.cell (p := ⟨b, _, none⟩) hbw).trans hc3
      have e4 := (hBw.cell (p := ⟨b, _, none⟩) hbw).trans hc4
      have e5 := (hBw.cell (p := ⟨b, _, none⟩) hbw).trans hc5
      have e6 := (hBw.cell (p := ⟨b, _, none⟩) hbw).trans hc6
      have e7 := (hBw.cell (p := ⟨b, _, none⟩) hbw).trans hc7
      have e8 := (hBw.cell (p := ⟨b, _, none⟩) hbw).trans hc8
      have e9 := (hBw.cell (p := ⟨b, _, none⟩) hbw).trans hc9
      clear hc0 hc1 hc2 hc3 hc4 hc5 hc6 hc7 hc8 hc9
      have Hxa : Hid (x.at_ w) := He.out x (List.mem_of_getElem? Hx0.out)
      have Hvn : Hid (v.n ≤ k) := by
        have h1 : acc.length = v.n := HO.out.len
        have h2 := forF_len age os (es.take k)
        rw [← HA.out, List.length_take] at h2
        show v.n ≤ k; omega
      cases hag : ageF x age
      · have HS : Hid (acc = forF age os (es.take (k + 1))) := by show _ = _; rw [forF_take Hx0.out, if_neg (by simp [fitsF, hag])]; exact HA.out
        go_wp2_with fail
        refine (hag ▸ product_Age x age _).mono ?_
        rintro e w2 hg
        obtain ⟨rfl, hb⟩ := hg.below
        clear hg
        have hz := hb.size
        (try simp only [World.size_alloc, World.size_setCell, World.size_drew, size_put] at hz)
        have hB : Below wr.heap.size wr w2 := below_step (by (repeat' (first | (with_reducible exact Below.refl _ _) | (with_reducible exact Nat.le_refl _) | (with_reducible assumption) | (with_reducible refine below_step ?_ ?_ hr) | (with_reducible refine below_over ?_ ?_ _) | (with_reducible refine Below.alloc ?_ ?_ _) | (with_reducible refine Below.setCell ?_ ?_ _) | (with_reducible refine below_put ?_ ?_ _) | (with_reducible refine Below.drew ?_) | (with_reducible refine below_drewN_ ?_ _) | (with_reducible refine le_drewN ?_ _) | (with_reducible refine over_le _ _ _ ?_) | (with_reducible refine le_alloc ?_ _) | (with_reducible refine le_setCell ?_ _ _) | (with_reducible refine le_put ?_ _ _) | (with_reducible refine le_drew ?_) | dsimp only | omega | ((try simp only [World.size_alloc, World.size_setCell, World.size_drew, size_put]); omega) | (simp; done)))) (by (first | omega | ((try simp only [World.size_alloc, World.size_setCell, World.size_drew, size_put]); omega))) hb
        have Q' : w2.heap[wr.heap.size]? = _ := hb.block (wr.heap.size) (by (first | omega | ((try simp only [World.size_alloc, World.size_setCell, World.size_drew, size_put]); omega)))
        simp only [alloc_block_if, put_block_if, over_block_if, set_block_if, setObj_cells, drew_block, drewN_block, Option.map_some, List.setIfInBounds_toArray, List.set_cons_zero, List.set_cons_succ, World.size_alloc, World.size_setCell, size_put, World.size_drew, if_true, if_false, ↓IntWalk.iteOmega] at Q'
        have Qwr_0 := Q'
        clear Q'
        have qwr_0 := cell_of_block Qwr_0
        clear hb
        have HO2 := Lib.hid (HO.out.toW hB)
        have hBw2 : Below w.heap.size w w2 := hBw.trans (hB.mono (by omega))
        go_wp2_with fail
        go_roundw
        case rel => exact ⟨k + 1, v, acc, by omega, by go_num, rfl, HS, HO2, by go_light; (repeat' (first | (with_reducible exact Below.refl _ _) | (with_reducible exact Nat.le_refl _) | (with_reducible assumption) | (with_reducible refine below_step ?_ ?_ hr) | (with_reducible refine below_over ?_ ?_ _) | (with_reducible refine Below.alloc ?_ ?_ _) | (with_reducible refine Below.setCell ?_ ?_ _) | (with_reducible refine below_put ?_ ?_ _) | (with_reducible refine Below.drew ?_) | (with_reducible refine below_drewN_ ?_ _) | (with_reducible refine le_drewN ?_ _) | (with_reducible refine over_le _ _ _ ?_) | (with_reducible refine le_alloc ?_ _) | (with_reducible refine le_setCell ?_ _ _) | (with_reducible refine le_put ?_ _ _) | (with_reducible refine le_drew ?_) | dsimp only | omega | ((try simp only [World.size_alloc, World.size_setCell, World.size_drew, size_put]); omega) | (simp; done)))⟩
        case measure => (simp [intOf] <;> omega)
      · cases hout : outL x.ops os
        · have HS : Hid (acc ++ [x.id] = forF age os (es.take (k + 1))) := by show _ = _; rw [forF_take Hx0.out, if_pos (by simp [fitsF, hag, hout]), ← HA.out]
          go_wp2_with fail
          refine (hag ▸ product_Age x age _).mono ?_
          rintro e w2 hg
          obtain ⟨rfl, hb⟩ := hg.below
          clear hg
          have hz := hb.size
          (try simp only [World.size_alloc, World.size_setCell, World.size_drew, size_put] at hz)
          have hB : Below wr.heap.size wr w2 := below_step (by (repeat' (first | (with_reducible exact Below.refl _ _) | (with_reducible exact Nat.le_refl _) | (with_reducible assumption) | (with_reducible refine below_step ?_ ?_ hr) | (with_reducible refine below_over ?_ ?_ _) | (with_reducible refine Below.alloc ?_ ?_ _) | (with_reducible refine Below.setCell ?_ ?_ _) | (with_reducible refine below_put ?_ ?_ _) | (with_reducible refine Below.drew ?_) | (with_reducible refine below_drewN_ ?_ _) | (with_reducible refine le_drewN ?_ _) | (with_reducible refine over_le _ _ _ ?_) | (with_reducible refine le_alloc ?_ _) | (with_reducible refine le_setCell ?_ _ _) | (with_reducible refine le_put ?_ _ _) | (with_reducible refine le_drew ?_) | dsimp only | omega | ((try simp only [World.size_alloc, World.size_setCell, World.size_drew, size_put]); omega) | (simp; done)))) (by (first | omega | ((try simp only [World.size_alloc, World.size_setCell, World.size_drew, size_put]); omega))) hb
          have Q' : w2.heap[wr.heap.size]? = _ := hb.block (wr.heap.size) (by (first | omega | ((try simp only [World.size_alloc, World.size_setCell, World.size_drew, size_put]); omega)))
          simp only [alloc_block_if, put_block_if, over_block_if, set_block_if, setObj_cells, drew_block, drewN_block, Option.map_some, List.setIfInBounds_toArray, List.set_cons_zero, List.set_cons_succ, World.size_alloc, World.size_setCell, size_put, World.size_drew, if_true, if_false, ↓IntWalk.iteOmega] at Q'
          have Qwr_0 := Q'
          clear Q'
          have qwr_0 := cell_of_block Qwr_0
          clear hb
          have HO2 := Lib.hid (HO.out.toW hB)
          have hBw2 : Below w.heap.size w w2 := hBw.trans (hB.mono (by omega))
          go_wp2_with fail
          refine (hout ▸ containsOut x ⟨zA, zn, zc⟩ os wr.heap.size _ (Hxa.out.toW (by (repeat' (first | (with_reducible exact Below.refl _ _) | (with_reducible exact Nat.le_refl _) | (with_reducible assumption) | (with_reducible refine below_step ?_ ?_ hr) | (with_reducible refine below_over ?_ ?_ _) | (with_reducible refine Below.alloc ?_ ?_ _) | (with_reducible refine Below.setCell ?_ ?_ _) | (with_reducible refine below_put ?_ ?_ _) | (with_reducible refine Below.drew ?_) | (with_reducible refine below_drewN_ ?_ _) | (with_reducible refine le_drewN ?_ _) | (with_reducible refine over_le _ _ _ ?_) | (with_reducible refine le_alloc ?_ _) | (with_reducible refine le_setCell ?_ _ _) | (with_reducible refine le_put ?_ _ _) | (with_reducible refine le_drew ?_) | dsimp only | omega | ((try simp only [World.size_alloc, World.size_setCell, World.size_drew, size_put]); omega) | (simp; done))))) Qwr_0 (Hz.out.toW (by (repeat' (first | (with_reducible exact Below.refl _ _) | (with_reducible exact Nat.le_refl _) | (with_reducible assumption) | (with_reducible refine below_step ?_ ?_ hr) | (with_reducible refine below_over ?_ ?_ _) | (with_reducible refine Below.alloc ?_ ?_ _) | (with_reducible refine Below.setCell ?_ ?_ _) | (with_reducible refine below_put ?_ ?_ _) | (with_reducible refine Below.drew ?_) | (with_reducible refine below_drewN_ ?_ _) | (with_reducible refine le_drewN ?_ _) | (with_reducible refine over_le _ _ _ ?_) | (with_reducible refine le_alloc ?_ _) | (with_reducible refine le_setCell ?_ _ _) | (with_reducible refine le_put ?_ _ _) | (with_reducible refine le_drew ?_) | dsimp only | omega | ((try simp only [World.size_alloc, World.size_setCell, World.size_drew, size_put]); omega) | (simp; done)))))).mono ?_
          rintro e w3 hg
          obtain ⟨rfl, hb⟩ := hg.below
          clear hg
          have hz := hb.size
          (try simp only [World.size_alloc, World.size_setCell, World.size_drew, size_put] at hz)
          have hB : Below wr.heap.size wr w3 := below_step (by (repeat' (first | (with_reducible exact Below.refl _ _) | (with_reducible exact Nat.le_refl _) | (with_reducible assumption) | (with_reducible refine below_step ?_ ?_ hr) | (with_reducible refine below_over ?_ ?_ _) | (with_reducible refine Below.alloc ?_ ?_ _) | (with_reducible refine Below.setCell ?_ ?_ _) | (with_reducible refine below_put ?_ ?_ _) | (with_reducible refine Below.drew ?_) | (with_reducible refine below_drewN_ ?_ _) | (with_reducible refine le_drewN ?_ _) | (with_reducible refine over_le _ _ _ ?_) | (with_reducible refine le_alloc ?_ _) | (with_reducible refine le_setCell ?_ _ _) | (with_reducible refine le_put ?_ _ _) | (with_reducible refine le_drew ?_) | dsimp only | omega | ((try simp only [World.size_alloc, World.size_setCell, World.size_drew, size_put]); omega) | (simp; done)))) (by (first | omega | ((try simp only [World.size_alloc, World.size_setCell, World.size_drew, size_put]); omega))) hb
          have Q' : w3.heap[wr.heap.size]? = _ := hb.block (wr.heap.size) (by (first | omega | ((try simp only [World.size_alloc, World.size_setCell, World.size_drew, size_put]); omega)))
          simp only [alloc_block_if, put_block_if, over_block_if, set_block_if, setObj_cells, drew_block, drewN_block, Option.map_some, List.setIfInBounds_toArray, List.set_cons_zero, List.set_cons_succ, World.size_alloc, World.size_setCell, size_put, World.size_drew, if_true, if_false, ↓IntWalk.iteOmega, Qwr_0] at Q'
          clear Qwr_0
          have Qwr_0 := Q'
          clear Q'
          have qwr_0 := cell_of_block Qwr_0
          clear hb
          have HO3 := Lib.hid (HO.out.toW hB)
          have hBw3 : Below w.heap.size w w3 := hBw.trans (hB.mono (by omega))
          go_wp2_with (first
            | (at_builtin
               obtain ⟨i0, hi, hi0, hi1, hi2⟩ := info_parts info_int
               go_must (refine wpList_append_rd rfl _ _ _ rfl w.heap.size 3 i0 _ 1 8 Try.underlying27 hi hi0 hi1 hi2 rfl (by decide) (fun _ => rfl) one_int (s := v) (y := ⟨some ⟨w3.heap.size, 0, none⟩, 1, 1⟩) (xs := acc) (ys := [x.id]) rfl rfl (HO3.out.alloc _) (rd_new 1 (fun _ => rfl) [_] rfl rfl rfl (by simp [maxLen])) (by have := Hvn.out; simp only [maxLen]; omega) (by have := Hvn.out; dsimp only; omega) (by simp; omega) ?_)
               clear hi hi0 hi1 hi2 i0
               intro v4 w4 hv hg hpos
               have HO4 := Lib.hid hv
               have hBw4 : Below w.heap.size w w4 := Below.grown (by (repeat' (first | (with_reducible exact Below.refl _ _) | (with_reducible exact Nat.le_refl _) | (with_reducible assumption) | (with_reducible refine below_step ?_ ?_ hr) | (with_reducible refine below_over ?_ ?_ _) | (with_reducible refine Below.alloc ?_ ?_ _) | (with_reducible refine Below.setCell ?_ ?_ _) | (with_reducible refine below_put ?_ ?_ _) | (with_reducible refine Below.drew ?_) | (with_reducible refine below_drewN_ ?_ _) | (with_reducible refine le_drewN ?_ _) | (with_reducible refine over_le _ _ _ ?_) | (with_reducible refine le_alloc ?_ _) | (with_reducible refine le_setCell ?_ _ _) | (with_reducible refine le_put ?_ _ _) | (with_reducible refine le_drew ?_) | dsimp only | omega | ((try simp only [World.size_alloc, World.size_setCell, World.size_drew, size_put]); omega) | (simp; done)))) hg (by simp; omega) (fun g hg2 => by have := (HO3.out.block g hg2).1; omega)
               clear hv hg hpos))
          go_roundw
          case rel => exact ⟨k + 1, v4, acc ++ [x.id], by omega, by go_num, rfl, HS, HO4, hBw4⟩
          case measure => (simp [intOf] <;> omega)
        · have HS : Hid (acc = forF age os (es.take (k + 1))) := by show _ = _; rw [forF_take Hx0.out, if_neg (by simp [fitsF, hag, hout])]; exact HA.out
          go_wp2_with fail
          refine (hag ▸ product_Age x age _).mono ?_
          rintro e w2 hg
          obtain ⟨rfl, hb⟩ := hg.below
          clear hg
          have hz := hb.size
          (try simp only [World.size_alloc, World.size_setCell, World.size_drew, size_put] at hz)
          have hB : Below wr.heap.size wr w2 := below_step (by (repeat' (first | (with_reducible exact Below.refl _ _) | (with_reducible exact Nat.le_refl _) | (with_reducible assumption) | (with_reducible refine below_step ?_ ?_ hr) | (with_reducible refine below_over ?_ ?_ _) | (with_reducible refine Below.alloc ?_ ?_ _) | (with_reducible refine Below.setCell ?_ ?_ _) | (with_reducible refine below_put ?_ ?_ _) | (with_reducible refine Below.drew ?_) | (with_reducible refine below_drewN_ ?_ _) | (with_reducible refine le_drewN ?_ _) | (with_reducible refine over_le _ _ _ ?_) | (with_reducible refine le_alloc ?_ _) | (with_reducible refine le_setCell ?_ _ _) | (with_reducible refine le_put ?_ _ _) | (with_reducible refine le_drew ?_) | dsimp only | omega | ((try simp only [World.size_alloc, World.size_setCell, World.size_drew, size_put]); omega) | (simp; done)))) (by (first | omega | ((try simp only [World.size_alloc, World.size_setCell, World.size_drew, size_put]); omega))) hb
          have Q' : w2.heap[wr.heap.size]? = _ := hb.block (wr.heap.size) (by (first | omega | ((try simp only [World.size_alloc, World.size_setCell, World.size_drew, size_put]); omega)))
          simp only [alloc_block_if, put_block_if, over_block_if, set_block_if, setObj_cells, drew_block, drewN_block, Option.map_some, List.setIfInBounds_toArray, List.set_cons_zero, List.set_cons_succ, World.size_alloc, World.size_setCell, size_put, World.size_drew, if_true, if_false, ↓IntWalk.iteOmega] at Q'
          have Qwr_0 := Q'
          clear Q'
          have qwr_0 := cell_of_block Qwr_0
          clear hb
          have HO2 := Lib.hid (HO.out.toW hB)
          have hBw2 : Below w.heap.size w w2 := hBw.trans (hB.mono (by omega))
          go_wp2_with fail
          refine (hout ▸ containsOut x ⟨zA, zn, zc⟩ os wr.heap.size _ (Hxa.out.toW (by (repeat' (first | (with_reducible exact Below.refl _ _) | (with_reducible exact Nat.le_refl _) | (with_reducible assumption) | (with_reducible refine below_step ?_ ?_ hr) | (with_reducible refine below_over ?_ ?_ _) | (with_reducible refine Below.alloc ?_ ?_ _) | (with_reducible refine Below.setCell ?_ ?_ _) | (with_reducible refine below_put ?_ ?_ _) | (with_reducible refine Below.drew ?_) | (with_reducible refine below_drewN_ ?_ _) | (with_reducible refine le_drewN ?_ _) | (with_reducible refine over_le _ _ _ ?_) | (with_reducible refine le_alloc ?_ _) | (with_reducible refine le_setCell ?_ _ _) | (with_reducible refine le_put ?_ _ _) | (with_reducible refine le_drew ?_) | dsimp only | omega | ((try simp only [World.size_alloc, World.size_setCell, World.size_drew, size_put]); omega) | (simp; done))))) Qwr_0 (Hz.out.toW (by (repeat' (first | (with_reducible exact Below.refl _ _) | (with_reducible exact Nat.le_refl _) | (with_reducible assumption) | (with_reducible refine below_step ?_ ?_ hr) | (with_reducible refine below_over ?_ ?_ _) | (with_reducible refine Below.alloc ?_ ?_ _) | (with_reducible refine Below.setCell ?_ ?_ _) | (with_reducible refine below_put ?_ ?_ _) | (with_reducible refine Below.drew ?_) | (with_reducible refine below_drewN_ ?_ _) | (with_reducible refine le_drewN ?_ _) | (with_reducible refine over_le _ _ _ ?_) | (with_reducible refine le_alloc ?_ _) | (with_reducible refine le_setCell ?_ _ _) | (with_reducible refine le_put ?_ _ _) | (with_reducible refine le_drew ?_) | dsimp only | omega | ((try simp only [World.size_alloc, World.size_setCell, World.size_drew, size_put]); omega) | (simp; done)))))).mono ?_
          rintro e w3 hg
          obtain ⟨rfl, hb⟩ := hg.below
          clear hg
          have hz := hb.size
          (try simp only [World.size_alloc, World.size_setCell, World.size_drew, size_put] at hz)
          have hB : Below wr.heap.size wr w3 := below_step (by (repeat' (first | (with_reducible exact Below.refl _ _) | (with_reducible exact Nat.le_refl _) | (with_reducible assumption) | (with_reducible refine below_step ?_ ?_ hr) | (with_reducible refine below_over ?_ ?_ _) | (with_reducible refine Below.alloc ?_ ?_ _) | (with_reducible refine Below.setCell ?_ ?_ _) | (with_reducible refine below_put ?_ ?_ _) | (with_reducible refine Below.drew ?_) | (with_reducible refine below_drewN_ ?_ _) | (with_reducible refine le_drewN ?_ _) | (with_reducible refine over_le _ _ _ ?_) | (with_reducible refine le_alloc ?_ _) | (with_reducible refine le_setCell ?_ _ _) | (with_reducible refine le_put ?_ _ _) | (with_reducible refine le_drew ?_) | dsimp only | omega | ((try simp only [World.size_alloc, World.size_setCell, World.size_drew, size_put]); omega) | (simp; done)))) (by (first | omega | ((try simp only [World.size_alloc, World.size_setCell, World.size_drew, size_put]); omega))) hb
          have Q' : w3.heap[wr.heap.size]? = _ := hb.block (wr.heap.size) (by (first | omega | ((try simp only [World.size_alloc, World.size_setCell, World.size_drew, size_put]); omega)))
          simp only [alloc_block_if, put_block_if, over_block_if, set_block_if, setObj_cells, drew_block, drewN_block, Option.map_some, List.setIfInBounds_toArray, List.set_cons_zero, List.set_cons_succ, World.size_alloc, World.size_setCell, size_put, World.size_drew, if_true, if_false, ↓IntWalk.iteOmega, Qwr_0] at Q'
          clear Qwr_0
          have Qwr_0 := Q'
          clear Q'
          have qwr_0 := cell_of_block Qwr_0
          clear hb
          have HO3 := Lib.hid (HO.out.toW hB)
          have hBw3 : Below w.heap.size w w3 := hBw.trans (hB.mono (by omega))
          go_wp2_with fail
          go_roundw
          case rel => exact ⟨k + 1, v, acc, by omega, by go_num, rfl, HS, HO3, by go_light; (repeat' (first | (with_reducible exact Below.refl _ _) | (with_reducible exact Nat.le_refl _) | (with_reducible assumption) | (with_reducible refine below_step ?_ ?_ hr) | (with_reducible refine below_over ?_ ?_ _) | (with_reducible refine Below.alloc ?_ ?_ _) | (with_reducible refine Below.setCell ?_ ?_ _) | (with_reducible refine below_put ?_ ?_ _) | (with_reducible refine Below.drew ?_) | (with_reducible refine below_drewN_ ?_ _) | (with_reducible refine le_drewN ?_ _) | (with_reducible refine over_le _ _ _ ?_) | (with_reducible refine le_alloc ?_ _) | (with_reducible refine le_setCell ?_ _ _) | (with_reducible refine le_put ?_ _ _) | (with_reducible refine le_drew ?_) | dsimp only | omega | ((try simp only [World.size_alloc, World.size_setCell, World.size_drew, size_put]); omega) | (simp; done)))⟩
          case measure => (simp [intOf] <;> omega)
    · have HE : Hid (acc = forF age os es) := by show _ = _; rw [HA.out, List.take_of_length_le (by rw [Hn.out]; omega)]
      go_wp2_with fail
      show P (.returned v.val) _
      rw [← HP.out, ← HE.out]
      exact ⟨hBw, v, rfl, HO.out⟩
set_option maxRecDepth 100000 in
set_option maxHeartbeats 8000000 in
theorem ref22_For (s : Sl) (es : List PD) (age : Int) (z : Sl) (os : List Int) (w : World) (hs : Rd w PD.enc s es) (he : ∀ p ∈ es, p.at_ w) (hn : s.n ≤ 1000) (hz : Rd w encI z os) : Calls Try.prog 25 #[s.val, .int .i64 age, z.val] w (ForPost (forF age os es) w) := by
  obtain ⟨A, n, c⟩ := s
  obtain ⟨zA, zn, zc⟩ := z
  dsimp only at hn
  have Hs := Lib.hid hs
  have He := Lib.hid he
  have Hz := Lib.hid hz
  have Hn : Hid (es.length = n) := Hs.out.len
  have hzmax : zn ≤ 9223372036854775807 := Hz.out.bound
  clear hs he hz
  generalize hV : ForPost (forF age os es) w = P
  have HP := Lib.hid hV
  clear hV
  simp only [Sl.val]
  (go_enter Try.func25, Try.ntmps25; try dsimp only [List.append])
  go_wp2_with fail
  go_loopw [7, 8] (fun u i wr => ∃ (k : Nat) (v : Sl) (acc : List Int), k ≤ n ∧ i = .int .i64 k ∧ u = v.val ∧ Hid (acc = forF age os (es.take k)) ∧ Hid (OwnI wr w.heap.size v acc) ∧ Below w.heap.size w wr) (fun _ i _ => n - (intOf i).toNat)
  case atStart => exact ⟨0, ⟨none, 0, 0⟩, [], Nat.zero_le _, rfl, rfl, rfl, Own.nil_ _ _ _ _ _, Below.refl _ _⟩
  case round =>
    obtain ⟨k, v, acc, hk, rfl, rfl, HA, HO, hBw⟩ := hrel
    have hzr := hBw.size
    by_cases hlt : k < n
    · obtain ⟨b, off, x, rfl, hbw, -, Hx0, hc0, hc1, hc2, hc3, hc4, hc5, hc6, hc7, hc8, hc9⟩ := Hs.out.pd hlt
      have e0 := (hBw.cell (p := ⟨b, _, none⟩) hbw).trans hc0
      have e1 := (hBw.cell (p := ⟨b, _, none⟩) hbw).trans hc1
      have e2 := (hBw.cell (p := ⟨b, _, none⟩) hbw).trans hc2
      have e3 := (hBw.cell (p := ⟨b, _, none⟩) hbw).trans hc3
      have e4 := (hBw.cell (p := ⟨b, _, none⟩) hbw).trans hc4
      have e5 := (hBw.cell (p := ⟨b, _, none⟩) hbw).trans hc5
      have e6 := (hBw.cell (p := ⟨b, _, none⟩) hbw).trans hc6
      have e7 := (hBw.cell (p := ⟨b, _, none⟩) hbw).trans hc7
      have e8 := (hBw.cell (p := ⟨b, _, none⟩) hbw).trans hc8
      have e9 := (hBw.cell (p := ⟨b, _, none⟩) hbw).trans hc9
      have Hxa : Hid (x.at_ w) := He.out x (List.mem_of_getElem? Hx0.out)
      have Hvn : Hid (v.n ≤ k) := by
        have h1 : acc.length = v.n := HO.out.len
        have h2 := forF_len age os (es.take k)
        rw [← HA.out, List.length_take] at h2
        show v.n ≤ k; omega
      go_wp2_with fail
      refine (ref22_Age x age _).mono ?_
      rintro e w2 hg
      obtain ⟨rfl, hb⟩ := hg.below
      clear hg
      have hz := hb.size
      (try simp only [World.size_alloc, World.size_setCell, World.size_drew, size_put] at hz)
      have hB : Below wr.heap.size wr w2 := below_step (by (repeat' (first | (with_reducible exact Below.refl _ _) | (with_reducible exact Nat.le_refl _) | (with_reducible assumption) | (with_reducible refine below_step ?_ ?_ hr) | (with_reducible refine below_over ?_ ?_ _) | (with_reducible refine Below.alloc ?_ ?_ _) | (with_reducible refine Below.setCell ?_ ?_ _) | (with_reducible refine below_put ?_ ?_ _) | (with_reducible refine Below.drew ?_) | (with_reducible refine below_drewN_ ?_ _) | (with_reducible refine le_drewN ?_ _) | (with_reducible refine over_le _ _ _ ?_) | (with_reducible refine le_alloc ?_ _) | (with_reducible refine le_setCell ?_ _ _) | (with_reducible refine le_put ?_ _ _) | (with_reducible refine le_drew ?_) | dsimp only | omega | ((try simp only [World.size_alloc, World.size_setCell, World.size_drew, size_put]); omega) | (simp; done)))) (by (first | omega | ((try simp only [World.size_alloc, World.size_setCell, World.size_drew, size_put]); omega))) hb
      clear hb
      have HO2 := Lib.hid (HO.out.toW hB)
      have hBw2 : Below w.heap.size w w2 := hBw.trans (hB.mono (by omega))
      go_wp2_with fail
      go_loopw [9, 10] (fun u i wr => ∃ (q : Nat) (ok : Bool), q ≤ zn ∧ i = .int .i64 q ∧ u = .bool ok ∧ Hid ((ok && !outL x.ops (os.drop q)) = fitsF age os x) ∧ Below w2.heap.size w2 wr) (fun _ i _ => zn - (intOf i).toNat)
      case atStart => exact ⟨0, ageF x age, Nat.zero_le _, rfl, rfl, rfl, Below.refl _ _⟩
      case round =>
        obtain ⟨q, ok, hq, rfl, rfl, Hq, hBq⟩ := hrel
        have hzq := hBq.size
        have hBwq : Below w.heap.size w wr := hBw2.trans (hBq.mono (by omega))
        have f0 := (hBwq.cell (p := ⟨b, _, none⟩) hbw).trans hc0
        have f1 := (hBwq.cell (p := ⟨b, _, none⟩) hbw).trans hc1
        have f2 := (hBwq.cell (p := ⟨b, _, none⟩) hbw).trans hc2
        have f3 := (hBwq.cell (p := ⟨b, _, none⟩) hbw).trans hc3
        have f4 := (hBwq.cell (p := ⟨b, _, none⟩) hbw).trans hc4
        have f5 := (hBwq.cell (p := ⟨b, _, none⟩) hbw).trans hc5
        have f6 := (hBwq.cell (p := ⟨b, _, none⟩) hbw).trans hc6
        have f7 := (hBwq.cell (p := ⟨b, _, none⟩) hbw).trans hc7
        have f8 := (hBwq.cell (p := ⟨b, _, none⟩) hbw).trans hc8
        have f9 := (hBwq.cell (p := ⟨b, _, none⟩) hbw).trans hc9
        by_cases hlq : q < zn
        · obtain ⟨b2, off2, y, rfl, hbw2, Hy, -, hd0⟩ := Hz.out.int hlq
          have g0 := (hBwq.cell (p := ⟨b2, _, none⟩) hbw2).trans hd0
          clear hd0 hc0 hc1 hc2 hc3 hc4 hc5 hc6 hc7 hc8 hc9
          have Hc := Lib.hid (fun w' (h : Below w.heap.size w w') => ref22_Area x y w' (Hxa.out.toW h))
          cases ok
          · have HE : Hid ((false && !outL x.ops (os.drop (q + 1))) = fitsF age os x) := Hq.out
            go_wp2_with fail
            all_goals refine wp_region_over (by kernel_rfl) (by kernel_rfl) ?_
            repeat (any_goals (first | go_big_quiet_step ((fail)) | (refine wpQuiet_step (fun K hK => ?_); go_simp; split <;> (refine hK _ ?_; clear hK K)) | quiet_step ((fail))))
            all_goals (refine wpQuiet_nil ?_; intro w3 hw'; have hb := below_of_ex hw'; clear hw'; have hz := hb.size; (try simp only [World.size_alloc, World.size_setCell, World.size_drew, size_put] at hz); have hB : Below wr.heap.size wr w3 := below_step (by (repeat' (first | (with_reducible exact Below.refl _ _) | (with_reducible exact Nat.le_refl _) | (with_reducible assumption) | (with_reducible refine below_step ?_ ?_ hr) | (with_reducible refine below_over ?_ ?_ _) | (with_reducible refine Below.alloc ?_ ?_ _) | (with_reducible refine Below.setCell ?_ ?_ _) | (with_reducible refine below_put ?_ ?_ _) | (with_reducible refine Below.drew ?_) | (with_reducible refine below_drewN_ ?_ _) | (with_reducible refine le_drewN ?_ _) | (with_reducible refine over_le _ _ _ ?_) | (with_reducible refine le_alloc ?_ _) | (with_reducible refine le_setCell ?_ _ _) | (with_reducible refine le_put ?_ _ _) | (with_reducible refine le_drew ?_) | dsimp only | omega | ((try simp only [World.size_alloc, World.size_setCell, World.size_drew, size_put]); omega) | (simp; done)))) (by (first | omega | ((try simp only [World.size_alloc, World.size_setCell, World.size_drew, size_put]); omega))) hb; clear hb)
            have hB3 : Below w2.heap.size w2 w3 := hBq.trans (hB.mono (by omega))
            go_wp2_with fail
            go_roundw
            case rel => exact ⟨q + 1, false, by omega, by go_num, rfl, HE, by go_light; (repeat' (first | (with_reducible exact Below.refl _ _) | (with_reducible exact Nat.le_refl _) | (with_reducible assumption) | (with_reducible refine below_step ?_ ?_ hr) | (with_reducible refine below_over ?_ ?_ _) | (with_reducible refine Below.alloc ?_ ?_ _) | (with_reducible refine Below.setCell ?_ ?_ _) | (with_reducible refine below_put ?_ ?_ _) | (with_reducible refine Below.drew ?_) | (with_reducible refine below_drewN_ ?_ _) | (with_reducible refine le_drewN ?_ _) | (with_reducible refine over_le _ _ _ ?_) | (with_reducible refine le_alloc ?_ _) | (with_reducible refine le_setCell ?_ _ _) | (with_reducible refine le_put ?_ _ _) | (with_reducible refine le_drew ?_) | dsimp only | omega | ((try simp only [World.size_alloc, World.size_setCell, World.size_drew, size_put]); omega) | (simp; done)))⟩
            case measure => (simp [intOf] <;> omega)
          · have HE : Hid ((hasF x.ops y && !outL x.ops (os.drop (q + 1))) = fitsF age os x) := by
              show _ = _
              rw [← Hq.out, Hy.out]
              simp only [outL]
              cases hasF x.ops y <;> simp
            go_wp2_with fail
            all_goals refine wp_region_over (by kernel_rfl) (by kernel_rfl) ?_
            repeat (any_goals (first | go_big_quiet_step ((first | (go_at_call 20; exact quiet_gives (Hc.out _ (by (repeat' (first | (with_reducible exact Below.refl _ _) | (with_reducible exact Nat.le_refl _) | (with_reducible assumption) | (with_reducible refine below_step ?_ ?_ hr) | (with_reducible refine below_over ?_ ?_ _) | (with_reducible refine Below.alloc ?_ ?_ _) | (with_reducible refine Below.setCell ?_ ?_ _) | (with_reducible refine below_put ?_ ?_ _) | (with_reducible refine Below.drew ?_) | (with_reducible refine below_drewN_ ?_ _) | (with_reducible refine le_drewN ?_ _) | (with_reducible refine over_le _ _ _ ?_) | (with_reducible refine le_alloc ?_ _) | (with_reducible refine le_setCell ?_ _ _) | (with_reducible refine le_put ?_ _ _) | (with_reducible refine le_drew ?_) | dsimp only | omega | ((try simp only [World.size_alloc, World.size_setCell, World.size_drew, size_put]); omega) | (simp; done)))))))) | (refine wpQuiet_step (fun K hK => ?_); go_simp; split <;> (refine hK _ ?_; clear hK K)) | quiet_step ((first | (go_at_call 20; exact quiet_gives (Hc.out _ (by (repeat' (first | (with_reducible exact Below.refl _ _) | (with_reducible exact Nat.le_refl _) | (with_reducible assumption) | (with_reducible refine below_step ?_ ?_ hr) | (with_reducible refine below_over ?_ ?_ _) | (with_reducible refine Below.alloc ?_ ?_ _) | (with_reducible refine Below.setCell ?_ ?_ _) | (with_reducible refine below_put ?_ ?_ _) | (with_reducible refine Below.drew ?_) | (with_reducible refine below_drewN_ ?_ _) | (with_reducible refine le_drewN ?_ _) | (with_reducible refine over_le _ _ _ ?_) | (with_reducible refine le_alloc ?_ _) | (with_reducible refine le_setCell ?_ _ _) | (with_reducible refine le_put ?_ _ _) | (with_reducible refine le_drew ?_) | dsimp only | omega | ((try simp only [World.size_alloc, World.size_setCell, World.size_drew, size_put]); omega) | (simp; done))))))))))
            all_goals (refine wpQuiet_nil ?_; intro w3 hw'; have hb := below_of_ex hw'; clear hw'; have hz := hb.size; (try simp only [World.size_alloc, World.size_setCell, World.size_drew, size_put] at hz); have hB : Below wr.heap.size wr w3 := below_step (by (repeat' (first | (with_reducible exact Below.refl _ _) | (with_reducible exact Nat.le_refl _) | (with_reducible assumption) | (with_reducible refine below_step ?_ ?_ hr) | (with_reducible refine below_over ?_ ?_ _) | (with_reducible refine Below.alloc ?_ ?_ _) | (with_reducible refine Below.setCell ?_ ?_ _) | (with_reducible refine below_put ?_ ?_ _) | (with_reducible refine Below.drew ?_) | (with_reducible refine below_drewN_ ?_ _) | (with_reducible refine le_drewN ?_ _) | (with_reducible refine over_le _ _ _ ?_) | (with_reducible refine le_alloc ?_ _) | (with_reducible refine le_setCell ?_ _ _) | (with_reducible refine le_put ?_ _ _) | (with_reducible refine le_drew ?_) | dsimp only | omega | ((try simp only [World.size_alloc, World.size_setCell, World.size_drew, size_put]); omega) | (simp; done)))) (by (first | omega | ((try simp only [World.size_alloc, World.size_setCell, World.size_drew, size_put]); omega))) hb; clear hb)
            have hB3 : Below w2.heap.size w2 w3 := hBq.trans (hB.mono (by omega))
            go_wp2_with fail
            go_roundw
            case rel => exact ⟨q + 1, hasF x.ops y, by omega, by go_num, rfl, HE, by go_light; (repeat' (first | (with_reducible exact Below.refl _ _) | (with_reducible exact Nat.le_refl _) | (with_reducible assumption) | (with_reducible refine below_step ?_ ?_ hr) | (with_reducible refine below_over ?_ ?_ _) | (with_reducible refine Below.alloc ?_ ?_ _) | (with_reducible refine Below.setCell ?_ ?_ _) | (with_reducible refine below_put ?_ ?_ _) | (with_reducible refine Below.drew ?_) | (with_reducible refine below_drewN_ ?_ _) | (with_reducible refine le_drewN ?_ _) | (with_reducible refine over_le _ _ _ ?_) | (with_reducible refine le_alloc ?_ _) | (with_reducible refine le_setCell ?_ _ _) | (with_reducible refine le_put ?_ _ _) | (with_reducible refine le_drew ?_) | dsimp only | omega | ((try simp only [World.size_alloc, World.size_setCell, World.size_drew, size_put]); omega) | (simp; done)))⟩
            case measure => (simp [intOf] <;> omega)
        · have HE : Hid (ok = fitsF age os x) := by
            show _ = _
            rw [← Hq.out, Hz.out.done_ hlq]
            simp [outL]
          clear hc0 hc1 hc2 hc3 hc4 hc5 hc6 hc7 hc8 hc9
          have HOq := Lib.hid (HO2.out.toW hBq)
          cases ok
          · have HS : Hid (acc = forF age os (es.take (k + 1))) := by show _ = _; rw [forF_take Hx0.out, if_neg (by rw [← HE.out]; simp)]; exact HA.out
            go_wp2_with fail
            go_roundw
            case rel => exact ⟨k + 1, v, acc, by omega, by go_num, rfl, HS, HOq, by go_light; (repeat' (first | (with_reducible exact Below.refl _ _) | (with_reducible exact Nat.le_refl _) | (with_reducible assumption) | (with_reducible refine below_step ?_ ?_ hr) | (with_reducible refine below_over ?_ ?_ _) | (with_reducible refine Below.alloc ?_ ?_ _) | (with_reducible refine Below.setCell ?_ ?_ _) | (with_reducible refine below_put ?_ ?_ _) | (with_reducible refine Below.drew ?_) | (with_reducible refine below_drewN_ ?_ _) | (with_reducible refine le_drewN ?_ _) | (with_reducible refine over_le _ _ _ ?_) | (with_reducible refine le_alloc ?_ _) | (with_reducible refine le_setCell ?_ _ _) | (with_reducible refine le_put ?_ _ _) | (with_reducible refine le_drew ?_) | dsimp only | omega | ((try simp only [World.size_alloc, World.size_setCell, World.size_drew, size_put]); omega) | (simp; done)))⟩
            case measure => (simp [intOf] <;> omega)
          · have HS : Hid (acc ++ [x.id] = forF age os (es.take (k + 1))) := by show _ = _; rw [forF_take Hx0.out, if_pos (by rw [← HE.out]), ← HA.out]
            go_wp2_with (first
              | (at_builtin
                 obtain ⟨i0, hi, hi0, hi1, hi2⟩ := info_parts info_int
                 go_must (refine wpList_append_rd rfl _ _ _ rfl w.heap.size 3 i0 _ 1 8 Try.underlying27 hi hi0 hi1 hi2 rfl (by decide) (fun _ => rfl) one_int (s := v) (y := ⟨some ⟨wr.heap.size, 0, none⟩, 1, 1⟩) (xs := acc) (ys := [x.id]) rfl rfl (HOq.out.alloc _) (rd_new 1 (fun _ => rfl) [_] rfl rfl rfl (by simp [maxLen])) (by have := Hvn.out; simp only [maxLen]; omega) (by have := Hvn.out; dsimp only; omega) (by simp; omega) ?_)
                 clear hi hi0 hi1 hi2 i0
                 intro v4 w4 hv hg hpos
                 have HO4 := Lib.hid hv
                 have hBw4 : Below w.heap.size w w4 := Below.grown (by (repeat' (first | (with_reducible exact Below.refl _ _) | (with_reducible exact Nat.le_refl _) | (with_reducible assumption) | (with_reducible refine below_step ?_ ?_ hr) | (with_reducible refine below_over ?_ ?_ _) | (with_reducible refine Below.alloc ?_ ?_ _) | (with_reducible refine Below.setCell ?_ ?_ _) | (with_reducible refine below_put ?_ ?_ _) | (with_reducible refine Below.drew ?_) | (with_reducible refine below_drewN_ ?_ _) | (with_reducible refine le_drewN ?_ _) | (with_reducible refine over_le _ _ _ ?_) | (with_reducible refine le_alloc ?_ _) | (with_reducible refine le_setCell ?_ _ _) | (with_reducible refine le_put ?_ _ _) | (with_reducible refine le_drew ?_) | dsimp only | omega | ((try simp only [World.size_alloc, World.size_setCell, World.size_drew, size_put]); omega) | (simp; done)))) hg (by simp; omega) (fun g hg2 => by have := (HOq.out.block g hg2).1; omega)
                 clear hv hg hpos))
            go_roundw
            case rel => exact ⟨k + 1, v4, acc ++ [x.id], by omega, by go_num, rfl, HS, HO4, hBw4⟩
            case measure => (simp [intOf] <;> omega)
    · have HE : Hid (acc = forF age os es) := by show _ = _; rw [HA.out, List.take_of_length_le (by rw [Hn.out]; omega)]
      go_wp2_with fail
      show P (.returned v.val) _
      rw [← HP.out, ← HE.out]
      exact ⟨hBw, v, rfl, HO.out⟩
end Go.Proofs.Ytiejgcbblljpbaa
