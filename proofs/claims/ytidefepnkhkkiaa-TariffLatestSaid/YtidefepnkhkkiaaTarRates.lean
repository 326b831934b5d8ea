/- Tariffs: the check of rates, of the program and of the reference. -/
import Derived.Test.YtidefepnkhkkiaaTar
import Derived.Test.YtidefepnkhkkiaaMapSet
namespace Go.Proofs.Ytidefepnkhkkiaa
set_option linter.unusedSimpArgs false
set_option linter.unusedVariables false
open Go.RowKit
def RT.bad (r : RT) : Bool := decide (r.lift < 1) || (decide (9999 < r.lift) || (decide (r.points < 1) || (decide (10000 < r.points) || (decide (r.extra < 0) || decide (1000 < r.extra)))))
/-- The error of a rate behind rates with these lifts. -/
def rateE (seen : List Int) (r : RT) : Int := if r.bad = true then 2 else if r.lift ∈ seen then 7 else if hoursF r.peak = false then 1 else 0
def ratesL : List Int → List RT → Int
  | _, [] => 0
  | seen, r :: rs => if rateE seen r = 0 then ratesL (seen ++ [r.lift]) rs else rateE seen r
def ratesF (l : List RT) : Int := ratesL [] l
theorem rateE_ok {seen : List Int} {r : RT} (h : rateE seen r = 0) : r.bad = false ∧ ¬ r.lift ∈ seen ∧ hoursF r.peak = true := by
  unfold rateE at h
  split at h
  · omega
  split at h
  · omega
  split at h
  · omega
  exact ⟨by simpa using ‹¬ r.bad = true›, ‹_›, by simpa using ‹¬ hoursF r.peak = false›⟩
theorem ratesL_stop {seen : List Int} {r : RT} {rs : List RT} {e : Int} (h : rateE seen r = e) (he : e ≠ 0) : ratesL seen (r :: rs) = e := by
  show (if rateE seen r = 0 then _ else rateE seen r) = e
  rw [h, if_neg he]
theorem ratesL_go {seen : List Int} {r : RT} {rs : List RT} (h : rateE seen r = 0) : ratesL seen (r :: rs) = ratesL (seen ++ [r.lift]) rs := by
  show (if rateE seen r = 0 then _ else rateE seen r) = _
  rw [if_pos h]
theorem lifts_take {xs : List RT} {k : Nat} {x : RT} (h : xs[k]? = some x) : (xs.take (k + 1)).map RT.lift = (xs.take k).map RT.lift ++ [x.lift] := by
  rw [List.take_add_one, h]; simp
set_option maxRecDepth 100000 in
set_option maxHeartbeats 800000 in
theorem clock_Right (s : Sl) (hs : List Hrs) (w : World) (hr : Rd w Hrs.enc s hs) : Calls Try.prog 30 #[s.val] w (Gives (.bool (hoursF hs)) w) := by
  obtain ⟨A, n, c⟩ := s
  have hmax : n ≤ 9223372036854775807 := hr.bound
  have Hr := Lib.hid hr
  clear hr
  have Hn : Hid (hs.length = n) := Hr.out.len
  simp only [Sl.val]
  (go_enter Try.func30, Try.ntmps30; try dsimp only [List.append])
  go_wp2
  go_loopw [7] (fun i wr => ∃ k : Nat, k ≤ n ∧ i = .int .i64 k ∧ Hid (okL (hs.drop k) = okL hs) ∧ Below w.heap.size w wr) (fun i _ => n - (intOf i).toNat)
  case atStart => exact ⟨0, Nat.zero_le _, rfl, rfl, Below.refl _ _⟩
  case round =>
    obtain ⟨k, hk, rfl, Hl, hB⟩ := hrel
    have hz := hB.size
    by_cases hlt : k < n
    · obtain ⟨b, off, x, rfl, hbw, Hx, -, hc0, hc1, hc2⟩ := Hr.out.hrs hlt
      have e0 := (hB.cell (p := ⟨b, _, none⟩) hbw).trans hc0
      have e1 := (hB.cell (p := ⟨b, _, none⟩) hbw).trans hc1
      have e2 := (hB.cell (p := ⟨b, _, none⟩) hbw).trans hc2
      clear hc0 hc1 hc2
      cases hok : x.ok
      · have Hok := Lib.hid hok
        clear hok
        go_wp2
        all_goals first
          | (go_ret; exact gives_of (ret_bool (by go_light; rw [hoursF, ← Hl.out, Hx.out]; simp only [okL]; rw [if_neg (by rw [Hok.out]; simp)]; rfl)) (by go_light; (repeat' (first | (with_reducible exact Below.refl _ _) | (with_reducible exact Nat.le_refl _) | (with_reducible assumption) | (with_reducible refine below_step ?_ ?_ hr) | (with_reducible refine below_over ?_ ?_ _) | (with_reducible refine Below.alloc ?_ ?_ _) | (with_reducible refine Below.setCell ?_ ?_ _) | (with_reducible refine below_put ?_ ?_ _) | (with_reducible refine Below.drew ?_) | (with_reducible refine below_drewN_ ?_ _) | (with_reducible refine le_drewN ?_ _) | (with_reducible refine over_le _ _ _ ?_) | (with_reducible refine le_alloc ?_ _) | (with_reducible refine le_setCell ?_ _ _) | (with_reducible refine le_put ?_ _ _) | (with_reducible refine le_drew ?_) | dsimp only | omega | ((try simp only [World.size_alloc, World.size_setCell, World.size_drew, size_put]); omega) | (simp; done)))))
          | (exfalso; go_light; have h := Hok.out; simp [Hrs.ok] at h; omega)
      · obtain ⟨h1, h2, h3, h4, h5⟩ : ¬ x.days < 1 ∧ ¬ 127 < x.days ∧ ¬ x.from_ < 0 ∧ ¬ x.till ≤ x.from_ ∧ ¬ 86400 < x.till := by simp [Hrs.ok] at hok; omega
        have Hok := Lib.hid hok
        clear hok
        go_wp2
        go_roundw
        case rel => exact ⟨k + 1, by omega, by go_num, Lib.hid (by go_light; rw [← Hl.out, Hx.out]; simp only [okL]; rw [if_pos Hok.out]), by go_light; (repeat' (first | (with_reducible exact Below.refl _ _) | (with_reducible exact Nat.le_refl _) | (with_reducible assumption) | (with_reducible refine below_step ?_ ?_ hr) | (with_reducible refine below_over ?_ ?_ _) | (with_reducible refine Below.alloc ?_ ?_ _) | (with_reducible refine Below.setCell ?_ ?_ _) | (with_reducible refine below_put ?_ ?_ _) | (with_reducible refine Below.drew ?_) | (with_reducible refine below_drewN_ ?_ _) | (with_reducible refine le_drewN ?_ _) | (with_reducible refine over_le _ _ _ ?_) | (with_reducible refine le_alloc ?_ _) | (with_reducible refine le_setCell ?_ _ _) | (with_reducible refine le_put ?_ _ _) | (with_reducible refine le_drew ?_) | dsimp only | omega | ((try simp only [World.size_alloc, World.size_setCell, World.size_drew, size_put]); omega) | (simp; done)))⟩
        case measure => simp [intOf]; omega
    · have Ht : Hid (okL hs = true) := by show okL hs = true; rw [← Hl.out, Hr.out.done_ hlt]; rfl
      go_wp2
      go_ret
      exact gives_of (ret_bool (by rw [hoursF, Ht.out, Hn.out]; simp <;> omega)) (by go_light; (repeat' (first | (with_reducible exact Below.refl _ _) | (with_reducible exact Nat.le_refl _) | (with_reducible assumption) | (with_reducible refine below_step ?_ ?_ hr) | (with_reducible refine below_over ?_ ?_ _) | (with_reducible refine Below.alloc ?_ ?_ _) | (with_reducible refine Below.setCell ?_ ?_ _) | (with_reducible refine below_put ?_ ?_ _) | (with_reducible refine Below.drew ?_) | (with_reducible refine below_drewN_ ?_ _) | (with_reducible refine le_drewN ?_ _) | (with_reducible refine over_le _ _ _ ?_) | (with_reducible refine le_alloc ?_ _) | (with_reducible refine le_setCell ?_ _ _) | (with_reducible refine le_put ?_ _ _) | (with_reducible refine le_drew ?_) | dsimp only | omega | ((try simp only [World.size_alloc, World.size_setCell, World.size_drew, size_put]); omega) | (simp; done))))
theorem U_int : Try.prog.underlying 3 = some (.int .i64) := Try.underlying3
theorem U_bool : Try.prog.underlying 4 = some .bool := Try.underlying4
theorem zero_bool (w : World) : (zeroValue 4).run Try.prog w = .ok (.bool false) w := by kernel_rfl
abbrev Seen (w : World) (b n : Nat) (acc : List Int) : Prop := OwnS Try.prog 3 4 w b n acc
theorem bad_of {r : RT} (h : r.bad = false) : ¬ r.lift < 1 ∧ ¬ 9999 < r.lift ∧ ¬ r.points < 1 ∧ ¬ 10000 < r.points ∧ ¬ r.extra < 0 ∧ ¬ 1000 < r.extra := by
  simp [RT.bad] at h; omega
set_option maxRecDepth 100000 in
set_option maxHeartbeats 1600000 in
theorem tariff_rates (s : Sl) (xs : List RT) (w : World) (hs : Rd w RT.enc s xs) (ha : ∀ x ∈ xs, x.at_ w) : Calls Try.prog 24 #[s.val] w (Gives (.int .i64 (ratesF xs)) w) := by
  obtain ⟨A, n, c⟩ := s
  have hmax : n ≤ 9223372036854775807 := hs.bound
  have hml : n ≤ maxLen := Nat.le_trans hs.cap hs.max
  have Hml := Lib.hid hml
  clear hml
  have Hs := Lib.hid hs
  have Ha := Lib.hid ha
  clear hs ha
  simp only [Sl.val]
  have hmm := @run_makeMap Try.prog
  (go_enter Try.func24, Try.ntmps24; try dsimp only [List.append])
  go_wp2
  clear hmm
  go_loopw [9] (fun i wr => ∃ k : Nat, k ≤ n ∧ i = .int .i64 k ∧ Hid (ratesL ((xs.take k).map RT.lift) (xs.drop k) = ratesF xs) ∧ Below w.heap.size w wr ∧ Hid (Seen wr w.heap.size k ((xs.take k).map RT.lift))) (fun i _ => n - (intOf i).toNat)
  case atStart => exact ⟨0, Nat.zero_le _, rfl, rfl, by (repeat' (first | (with_reducible exact Below.refl _ _) | (with_reducible exact Nat.le_refl _) | (with_reducible assumption) | (with_reducible refine below_step ?_ ?_ hr) | (with_reducible refine below_over ?_ ?_ _) | (with_reducible refine Below.alloc ?_ ?_ _) | (with_reducible refine Below.setCell ?_ ?_ _) | (with_reducible refine below_put ?_ ?_ _) | (with_reducible refine Below.drew ?_) | (with_reducible refine below_drewN_ ?_ _) | (with_reducible refine le_drewN ?_ _) | (with_reducible refine over_le _ _ _ ?_) | (with_reducible refine le_alloc ?_ _) | (with_reducible refine le_setCell ?_ _ _) | (with_reducible refine le_put ?_ _ _) | (with_reducible refine le_drew ?_) | dsimp only | omega | ((try simp only [World.size_alloc, World.size_setCell, World.size_drew, size_put]); omega) | (simp; done))), OwnS.made _ _ _ w⟩
  case round =>
    obtain ⟨k, hk, rfl, Hl, hB, HO⟩ := hrel
    have hz := hB.size
    have hlt0 := HO.out.lt
    by_cases hlt : k < n
    · obtain ⟨b, off, x, rfl, hbw, Hx, Hx0, hc0, hc1, hc2, hc3⟩ := Hs.out.rt hlt
      have e0 := (hB.cell (p := ⟨b, _, none⟩) hbw).trans hc0
      have e1 := (hB.cell (p := ⟨b, _, none⟩) hbw).trans hc1
      have e2 := (hB.cell (p := ⟨b, _, none⟩) hbw).trans hc2
      have e3 := (hB.cell (p := ⟨b, _, none⟩) hbw).trans hc3
      clear hc0 hc1 hc2 hc3
      have Hx1 := Lib.hid (Ha.out x (List.mem_of_getElem? Hx0.out))
      have Ht := Lib.hid (lifts_take Hx0.out)
      rw [Hx.out] at Hl
      generalize hacc : (xs.take k).map RT.lift = acc at Hl HO Ht
      clear hacc
      cases hbad : x.bad
      · have Hbad := Lib.hid hbad
        obtain ⟨h1, h2, h3, h4, h5, h6⟩ := bad_of hbad
        clear hbad
        have Hw : Hid ((Lit.int .i64 x.lift).wf = true) := i64_wf (by omega) (by omega)
        by_cases hin : x.lift ∈ acc
        · have hd : decide (x.lift ∈ acc) = true := by simpa using hin
          have HE : Hid (rateE acc x = 7) := by show rateE acc x = 7; rw [rateE, if_neg (by rw [Hbad.out]; simp), if_pos hin]
          clear hin
          go_wp2_with (at_lookup; refine wpList_lookup_set rfl _ _ rfl rfl (HO.out.kept (World.grownBy_alloc _ _ none) (by simp)) U_int Try.underlying54 U_bool (zero_bool _) x.lift Hw.out rfl _ hd ?_)
          go_ret
          exact gives_of (ret_int (by go_light; rw [← Hl.out, ratesL_stop HE.out (by decide)])) (by go_light; (repeat' (first | (with_reducible exact Below.refl _ _) | (with_reducible exact Nat.le_refl _) | (with_reducible assumption) | (with_reducible refine below_step ?_ ?_ hr) | (with_reducible refine below_over ?_ ?_ _) | (with_reducible refine Below.alloc ?_ ?_ _) | (with_reducible refine Below.setCell ?_ ?_ _) | (with_reducible refine below_put ?_ ?_ _) | (with_reducible refine Below.drew ?_) | (with_reducible refine below_drewN_ ?_ _) | (with_reducible refine le_drewN ?_ _) | (with_reducible refine over_le _ _ _ ?_) | (with_reducible refine le_alloc ?_ _) | (with_reducible refine le_setCell ?_ _ _) | (with_reducible refine le_put ?_ _ _) | (with_reducible refine le_drew ?_) | dsimp only | omega | ((try simp only [World.size_alloc, World.size_setCell, World.size_drew, size_put]); omega) | (simp; done))))
        · have hd : decide (x.lift ∈ acc) = false := by simpa using hin
          cases hh : hoursF x.peak
          · have HE : Hid (rateE acc x = 1) := by show rateE acc x = 1; rw [rateE, if_neg (by rw [Hbad.out]; simp), if_neg hin, if_pos hh]
            clear hin
            go_wp2_with (first | (at_lookup; refine wpList_lookup_set rfl _ _ rfl rfl (HO.out.kept (World.grownBy_alloc _ _ none) (by simp)) U_int Try.underlying54 U_bool (zero_bool _) x.lift Hw.out rfl _ hd ?_) | (at_mapUpdate; refine wpList_update_set rfl _ _ _ rfl rfl (HO.out.kept (World.grownBy_alloc _ _ none) (by simp)) U_int Try.underlying54 U_bool (by have := Hml.out; omega) x.lift Hw.out rfl rfl ?_; intro w1 HO1 hg; have hB1 : Below w.heap.size w w1 := (hB.alloc (by omega) _).grown hg (by simp; omega) (fun k hk => by cases hk; exact Nat.le_refl _); have Qb : w1.heap[wr.heap.size]? = _ := hg.block wr.heap.size (by simp) (by simp; omega); rw [alloc_block_if, if_pos rfl] at Qb; have qb := cell_of_block Qb; have hz1 : wr.heap.size + 1 ≤ w1.heap.size := (by have := hg.size; simp at this; omega); clear Qb hg) | (go_at_call 30; refine (hh ▸ clock_Right x.sp x.peak _ (Hx1.out.toW (by (repeat' (first | (with_reducible exact Below.refl _ _) | (with_reducible exact Nat.le_refl _) | (with_reducible assumption) | (with_reducible refine below_step ?_ ?_ hr) | (with_reducible refine below_over ?_ ?_ _) | (with_reducible refine Below.alloc ?_ ?_ _) | (with_reducible refine Below.setCell ?_ ?_ _) | (with_reducible refine below_put ?_ ?_ _) | (with_reducible refine Below.drew ?_) | (with_reducible refine below_drewN_ ?_ _) | (with_reducible refine le_drewN ?_ _) | (with_reducible refine over_le _ _ _ ?_) | (with_reducible refine le_alloc ?_ _) | (with_reducible refine le_setCell ?_ _ _) | (with_reducible refine le_put ?_ _ _) | (with_reducible refine le_drew ?_) | dsimp only | omega | ((try simp only [World.size_alloc, World.size_setCell, World.size_drew, size_put]); omega) | (simp; done)))))).mono ?_; rintro e w2 hg2; obtain ⟨rfl, hr⟩ := hg2.below; clear hg2; have HO2 := Lib.hid (HO1.of_block (hr.block _ (by omega))); have hz := hr.size; (try simp only [World.size_alloc, World.size_setCell, World.size_drew, size_put] at hz); have hB : Below w.heap.size w w2 := below_step (by (repeat' (first | (with_reducible exact Below.refl _ _) | (with_reducible exact Nat.le_refl _) | (with_reducible assumption) | (with_reducible refine below_step ?_ ?_ hr) | (with_reducible refine below_over ?_ ?_ _) | (with_reducible refine Below.alloc ?_ ?_ _) | (with_reducible refine Below.setCell ?_ ?_ _) | (with_reducible refine below_put ?_ ?_ _) | (with_reducible refine Below.drew ?_) | (with_reducible refine below_drewN_ ?_ _) | (with_reducible refine le_drewN ?_ _) | (with_reducible refine over_le _ _ _ ?_) | (with_reducible refine le_alloc ?_ _) | (with_reducible refine le_setCell ?_ _ _) | (with_reducible refine le_put ?_ _ _) | (with_reducible refine le_drew ?_) | dsimp only | omega | ((try simp only [World.size_alloc, World.size_setCell, World.size_drew, size_put]); omega) | (simp; done)))) (by (first | omega | ((try simp only [World.size_alloc, World.size_setCell, World.size_drew, size_put]); omega))) hr))
            go_ret
            exact gives_of (ret_int (by go_light; rw [← Hl.out, ratesL_stop HE.out (by decide)])) (by go_light; (repeat' (first | (with_reducible exact Below.refl _ _) | (with_reducible exact Nat.le_refl _) | (with_reducible assumption) | (with_reducible refine below_step ?_ ?_ hr) | (with_reducible refine below_over ?_ ?_ _) | (with_reducible refine Below.alloc ?_ ?_ _) | (with_reducible refine Below.setCell ?_ ?_ _) | (with_reducible refine below_put ?_ ?_ _) | (with_reducible refine Below.drew ?_) | (with_reducible refine below_drewN_ ?_ _) | (with_reducible refine le_drewN ?_ _) | (with_reducible refine over_le _ _ _ ?_) | (with_reducible refine le_alloc ?_ _) | (with_reducible refine le_setCell ?_ _ _) | (with_reducible refine le_put ?_ _ _) | (with_reducible refine le_drew ?_) | dsimp only | omega | ((try simp only [World.size_alloc, World.size_setCell, World.size_drew, size_put]); omega) | (simp; done))))
          · have HE : Hid (rateE acc x = 0) := by show rateE acc x = 0; rw [rateE, if_neg (by rw [Hbad.out]; simp), if_neg hin, if_neg (by rw [hh]; simp)]
            clear hin
            go_wp2_with (first | (at_lookup; refine wpList_lookup_set rfl _ _ rfl rfl (HO.out.kept (World.grownBy_alloc _ _ none) (by simp)) U_int Try.underlying54 U_bool (zero_bool _) x.lift Hw.out rfl _ hd ?_) | (at_mapUpdate; refine wpList_update_set rfl _ _ _ rfl rfl (HO.out.kept (World.grownBy_alloc _ _ none) (by simp)) U_int Try.underlying54 U_bool (by have := Hml.out; omega) x.lift Hw.out rfl rfl ?_; intro w1 HO1 hg; have hB1 : Below w.heap.size w w1 := (hB.alloc (by omega) _).grown hg (by simp; omega) (fun k hk => by cases hk; exact Nat.le_refl _); have Qb : w1.heap[wr.heap.size]? = _ := hg.block wr.heap.size (by simp) (by simp; omega); rw [alloc_block_if, if_pos rfl] at Qb; have qb := cell_of_block Qb; have hz1 : wr.heap.size + 1 ≤ w1.heap.size := (by have := hg.size; simp at this; omega); clear Qb hg) | (go_at_call 30; refine (hh ▸ clock_Right x.sp x.peak _ (Hx1.out.toW (by (repeat' (first | (with_reducible exact Below.refl _ _) | (with_reducible exact Nat.le_refl _) | (with_reducible assumption) | (with_reducible refine below_step ?_ ?_ hr) | (with_reducible refine below_over ?_ ?_ _) | (with_reducible refine Below.alloc ?_ ?_ _) | (with_reducible refine Below.setCell ?_ ?_ _) | (with_reducible refine below_put ?_ ?_ _) | (with_reducible refine Below.drew ?_) | (with_reducible refine below_drewN_ ?_ _) | (with_reducible refine le_drewN ?_ _) | (with_reducible refine over_le _ _ _ ?_) | (with_reducible refine le_alloc ?_ _) | (with_reducible refine le_setCell ?_ _ _) | (with_reducible refine le_put ?_ _ _) | (with_reducible refine le_drew ?_) | dsimp only | omega | ((try simp only [World.size_alloc, World.size_setCell, World.size_drew, size_put]); omega) | (simp; done)))))).mono ?_; rintro e w2 hg2; obtain ⟨rfl, hr⟩ := hg2.below; clear hg2; have HO2 := Lib.hid (HO1.of_block (hr.block _ (by omega))); have hz := hr.size; (try simp only [World.size_alloc, World.size_setCell, World.size_drew, size_put] at hz); have hB : Below w.heap.size w w2 := below_step (by (repeat' (first | (with_reducible exact Below.refl _ _) | (with_reducible exact Nat.le_refl _) | (with_reducible assumption) | (with_reducible refine below_step ?_ ?_ hr) | (with_reducible refine below_over ?_ ?_ _) | (with_reducible refine Below.alloc ?_ ?_ _) | (with_reducible refine Below.setCell ?_ ?_ _) | (with_reducible refine below_put ?_ ?_ _) | (with_reducible refine Below.drew ?_) | (with_reducible refine below_drewN_ ?_ _) | (with_reducible refine le_drewN ?_ _) | (with_reducible refine over_le _ _ _ ?_) | (with_reducible refine le_alloc ?_ _) | (with_reducible refine le_setCell ?_ _ _) | (with_reducible refine le_put ?_ _ _) | (with_reducible refine le_drew ?_) | dsimp only | omega | ((try simp only [World.size_alloc, World.size_setCell, World.size_drew, size_put]); omega) | (simp; done)))) (by (first | omega | ((try simp only [World.size_alloc, World.size_setCell, World.size_drew, size_put]); omega))) hr))
            go_roundw
            case rel => exact ⟨k + 1, by omega, by go_num, Lib.hid (by go_light; rw [Ht.out, ← Hl.out, ratesL_go HE.out]), by go_light; (repeat' (first | (with_reducible exact Below.refl _ _) | (with_reducible exact Nat.le_refl _) | (with_reducible assumption) | (with_reducible refine below_step ?_ ?_ hr) | (with_reducible refine below_over ?_ ?_ _) | (with_reducible refine Below.alloc ?_ ?_ _) | (with_reducible refine Below.setCell ?_ ?_ _) | (with_reducible refine below_put ?_ ?_ _) | (with_reducible refine Below.drew ?_) | (with_reducible refine below_drewN_ ?_ _) | (with_reducible refine le_drewN ?_ _) | (with_reducible refine over_le _ _ _ ?_) | (with_reducible refine le_alloc ?_ _) | (with_reducible refine le_setCell ?_ _ _) | (with_reducible refine le_put ?_ _ _) | (with_reducible refine le_drew ?_) | dsimp only | omega | ((try simp only [World.size_alloc, World.size_setCell, World.size_drew, size_put]); omega) | (simp; done))), by go_light; have h := HO2.out; rw [← Ht.out] at h; exact h⟩
            case measure => simp [intOf]; omega
      · have HE : Hid (rateE acc x = 2) := by show rateE acc x = 2; rw [rateE, if_pos hbad]
        have Hbad := Lib.hid hbad
        clear hbad
        go_wp2
        all_goals first
          | (go_ret; exact gives_of (ret_int (by go_light; rw [← Hl.out, ratesL_stop HE.out (by decide)])) (by go_light; (repeat' (first | (with_reducible exact Below.refl _ _) | (with_reducible exact Nat.le_refl _) | (with_reducible assumption) | (with_reducible refine below_step ?_ ?_ hr) | (with_reducible refine below_over ?_ ?_ _) | (with_reducible refine Below.alloc ?_ ?_ _) | (with_reducible refine Below.setCell ?_ ?_ _) | (with_reducible refine below_put ?_ ?_ _) | (with_reducible refine Below.drew ?_) | (with_reducible refine below_drewN_ ?_ _) | (with_reducible refine le_drewN ?_ _) | (with_reducible refine over_le _ _ _ ?_) | (with_reducible refine le_alloc ?_ _) | (with_reducible refine le_setCell ?_ _ _) | (with_reducible refine le_put ?_ _ _) | (with_reducible refine le_drew ?_) | dsimp only | omega | ((try simp only [World.size_alloc, World.size_setCell, World.size_drew, size_put]); omega) | (simp; done)))))
          | (exfalso; go_light; have h := Hbad.out; simp [RT.bad] at h; omega)
    · have Hd : Hid (ratesF xs = 0) := by show ratesF xs = 0; rw [← Hl.out, Hs.out.done_ hlt]; rfl
      go_wp2
      go_ret
      exact gives_of (ret_int Hd.out.symm) (by go_light; (repeat' (first | (with_reducible exact Below.refl _ _) | (with_reducible exact Nat.le_refl _) | (with_reducible assumption) | (with_reducible refine below_step ?_ ?_ hr) | (with_reducible refine below_over ?_ ?_ _) | (with_reducible refine Below.alloc ?_ ?_ _) | (with_reducible refine Below.setCell ?_ ?_ _) | (with_reducible refine below_put ?_ ?_ _) | (with_reducible refine Below.drew ?_) | (with_reducible refine below_drewN_ ?_ _) | (with_reducible refine le_drewN ?_ _) | (with_reducible refine over_le _ _ _ ?_) | (with_reducible refine le_alloc ?_ _) | (with_reducible refine le_setCell ?_ _ _) | (with_reducible refine le_put ?_ _ _) | (with_reducible refine le_drew ?_) | dsimp only | omega | ((try simp only [World.size_alloc, World.size_setCell, World.size_drew, size_put]); omega) | (simp; done))))
def liftIn (v : Int) : List RT → Bool
  | [] => false
  | r :: rs => if r.lift = v then true else liftIn v rs
theorem liftIn_mem (v : Int) : ∀ l : List RT, liftIn v l = decide (v ∈ l.map RT.lift)
  | [] => by simp [liftIn]
  | r :: rs => by
    have ih := liftIn_mem v rs
    unfold liftIn
    by_cases h : r.lift = v
    · rw [if_pos h]; simp [h]
    · rw [if_neg h, ih]
      have h' : ¬ v = r.lift := fun e => h e.symm
      simp [h']
theorem bad_of' {r : RT} (h : r.bad = false) : ¬ r.lift < 1 ∧ ¬ 9999 < r.lift ∧ ¬ r.points < 1 ∧ ¬ 10000 < r.points ∧ ¬ r.extra < 0 ∧ ¬ 1000 < r.extra := by
  simp [RT.bad] at h; omega
set_option maxRecDepth 100000 in
set_option maxHeartbeats 1600000 in
theorem ref33_rate (s : Sl) (xs : List RT) (k : Nat) (x : RT) (w : World) (hs : Rd w RT.enc s xs) (hx : xs[k]? = some x) (ha : x.at_ w) : Calls Try.prog 25 #[s.val, .int .i64 k] w (Gives (.int .i64 (rateE ((xs.take k).map RT.lift) x)) w) := by
  obtain ⟨A, n, c⟩ := s
  have hmax : n ≤ 9223372036854775807 := hs.bound
  have hkn : k < n := by have := (List.getElem?_eq_some_iff.1 hx).1; have := hs.len; dsimp only at this; omega
  have Hs := Lib.hid hs
  have Ha := Lib.hid ha
  obtain ⟨b, off, x', rfl, hbw, -, Hx0, hc0, hc1, hc2, hc3⟩ := Hs.out.rt hkn
  obtain rfl : x = x' := by have h := Hx0.out; rw [hx] at h; cases h; rfl
  clear hs ha hx
  generalize hV : rateE ((xs.take k).map RT.lift) x = V
  have HV := Lib.hid hV
  clear hV
  simp only [Sl.val]
  cases hbad : x.bad
  · have Hbad := Lib.hid hbad
    obtain ⟨h1, h2, h3, h4, h5, h6⟩ := bad_of' hbad
    clear hbad
    (go_enter Try.func25, Try.ntmps25; try dsimp only [List.append])
    go_wp2
    refine wp_letter (fun w1 hb => ?_)
    have hz := hb.size
    (try simp only [World.size_alloc, World.size_setCell, World.size_drew, size_put] at hz)
    have hB : Below w.heap.size w w1 := below_step (by (repeat' (first | (with_reducible exact Below.refl _ _) | (with_reducible exact Nat.le_refl _) | (with_reducible assumption) | (with_reducible refine below_step ?_ ?_ hr) | (with_reducible refine below_over ?_ ?_ _) | (with_reducible refine Below.alloc ?_ ?_ _) | (with_reducible refine Below.setCell ?_ ?_ _) | (with_reducible refine below_put ?_ ?_ _) | (with_reducible refine Below.drew ?_) | (with_reducible refine below_drewN_ ?_ _) | (with_reducible refine le_drewN ?_ _) | (with_reducible refine over_le _ _ _ ?_) | (with_reducible refine le_alloc ?_ _) | (with_reducible refine le_setCell ?_ _ _) | (with_reducible refine le_put ?_ _ _) | (with_reducible refine le_drew ?_) | dsimp only | omega | ((try simp only [World.size_alloc, World.size_setCell, World.size_drew, size_put]); omega) | (simp; done)))) (by (first | omega | ((try simp only [World.size_alloc, World.size_setCell, World.size_drew, size_put]); omega))) hb
    have Q' : w1.heap[w.heap.size]? = _ := hb.block (w.heap.size) (by (first | omega | ((try simp only [World.size_alloc, World.size_setCell, World.size_drew, size_put]); omega)))
    simp only [alloc_block_if, put_block_if, over_block_if, set_block_if, setObj_cells, drew_block, drewN_block, Option.map_some, List.setIfInBounds_toArray, List.set_cons_zero, List.set_cons_succ, World.size_alloc, World.size_setCell, size_put, World.size_drew, if_true, if_false, ↓IntWalk.iteOmega] at Q'
    have Q_0 := Q'
    clear Q'
    have q_0 := cell_of_block Q_0
    clear hb
    go_loopw [6] (fun i wr => ∃ j : Nat, j ≤ k ∧ i = .int .i64 j ∧ Hid (liftIn x.lift ((xs.take k).drop j) = liftIn x.lift (xs.take k)) ∧ Below w1.heap.size w1 wr) (fun i _ => k - (intOf i).toNat)
    case atStart => exact ⟨0, Nat.zero_le _, rfl, rfl, Below.refl _ _⟩
    case round =>
      obtain ⟨j, hj, rfl, Hl, hBr⟩ := hrel
      clear hc0 hc1 hc2 hc3
      have hzr := hBr.size
      have hBw : Below w.heap.size w wr := hB.trans (hBr.mono (by omega))
      have Q_0r := (hBr.block _ (by omega)).trans Q_0
      have q_0r := cell_of_block Q_0r
      clear q_0 Q_0 Q_0r
      by_cases hlt : j < k
      · obtain ⟨b', off', y, heq, hbw', Hy, Hy0, hd0, hd1, hd2, hd3⟩ := Hs.out.rt (show j < n by omega)
        obtain ⟨rfl, rfl⟩ : b = b' ∧ off = off' := by simpa using heq
        have e0 := (hBw.cell (p := ⟨b, _, none⟩) hbw).trans hd0
        clear hd0 hd1 hd2 hd3 heq hbw'
        have Hyd : Hid ((xs.take k).drop j = y :: (xs.take k).drop (j + 1)) := by
          have h := Hy0.out
          have hj2 : j < (xs.take k).length := by have := (List.getElem?_eq_some_iff.1 h).1; simp; omega
          show (xs.take k).drop j = _
          rw [List.drop_eq_getElem_cons hj2]
          congr 1
          rw [List.getElem_take]
          exact (List.getElem?_eq_some_iff.1 h).2
        rw [Hyd.out] at Hl
        by_cases hyl : y.lift = x.lift
        · have hyb : (y.lift == x.lift) = true := by simpa using hyl
          have HE : Hid (V = 7) := by
            have h := Hl.out
            rw [liftIn, if_pos hyl, liftIn_mem] at h
            show V = 7
            rw [← HV.out, rateE, if_neg (by rw [Hbad.out]; simp), if_pos (by simpa using h.symm)]
          clear hyl
          go_wp2_with fail
          all_goals refine wp_region_over (by kernel_rfl) (by kernel_rfl) ?_
          repeat (any_goals (first | go_big_quiet_step ((fail)) | (refine wpQuiet_step (fun K hK => ?_); go_simp; split <;> (refine hK _ ?_; clear hK K)) | quiet_step ((fail))))
          all_goals (refine wpQuiet_nil ?_; intro _ hw'; obtain ⟨xq, hw''⟩ := hw'; have hz := size_of hw''; (try simp only [World.size_alloc, World.size_setCell, World.size_drew] at hz); subst hw'')
          go_wp2_with fail
          go_ret
          exact gives_of (ret_int HE.out.symm) (by go_light; (repeat' (first | (with_reducible exact Below.refl _ _) | (with_reducible exact Nat.le_refl _) | (with_reducible assumption) | (with_reducible refine below_step ?_ ?_ hr) | (with_reducible refine below_over ?_ ?_ _) | (with_reducible refine Below.alloc ?_ ?_ _) | (with_reducible refine Below.setCell ?_ ?_ _) | (with_reducible refine below_put ?_ ?_ _) | (with_reducible refine Below.drew ?_) | (with_reducible refine below_drewN_ ?_ _) | (with_reducible refine le_drewN ?_ _) | (with_reducible refine over_le _ _ _ ?_) | (with_reducible refine le_alloc ?_ _) | (with_reducible refine le_setCell ?_ _ _) | (with_reducible refine le_put ?_ _ _) | (with_reducible refine le_drew ?_) | dsimp only | omega | ((try simp only [World.size_alloc, World.size_setCell, World.size_drew, size_put]); omega) | (simp; done))))
        · have hyb : (y.lift == x.lift) = false := by simpa using hyl
          have Hl2 : Hid (liftIn x.lift ((xs.take k).drop (j + 1)) = liftIn x.lift (xs.take k)) := by
            have h := Hl.out
            rw [liftIn, if_neg hyl] at h
            exact h
          clear hyl
          go_wp2_with fail
          all_goals refine wp_region_over (by kernel_rfl) (by kernel_rfl) ?_
          repeat (any_goals (first | go_big_quiet_step ((fail)) | (refine wpQuiet_step (fun K hK => ?_); go_simp; split <;> (refine hK _ ?_; clear hK K)) | quiet_step ((fail))))
          all_goals (refine wpQuiet_nil ?_; intro _ hw'; obtain ⟨xq, hw''⟩ := hw'; have hz := size_of hw''; (try simp only [World.size_alloc, World.size_setCell, World.size_drew] at hz); subst hw'')
          go_wp2_with fail
          go_roundw
          case rel => exact ⟨j + 1, by omega, by go_num, Hl2, by go_light; (repeat' (first | (with_reducible exact Below.refl _ _) | (with_reducible exact Nat.le_refl _) | (with_reducible assumption) | (with_reducible refine below_step ?_ ?_ hr) | (with_reducible refine below_over ?_ ?_ _) | (with_reducible refine Below.alloc ?_ ?_ _) | (with_reducible refine Below.setCell ?_ ?_ _) | (with_reducible refine below_put ?_ ?_ _) | (with_reducible refine Below.drew ?_) | (with_reducible refine below_drewN_ ?_ _) | (with_reducible refine le_drewN ?_ _) | (with_reducible refine over_le _ _ _ ?_) | (with_reducible refine le_alloc ?_ _) | (with_reducible refine le_setCell ?_ _ _) | (with_reducible refine le_put ?_ _ _) | (with_reducible refine le_drew ?_) | dsimp only | omega | ((try simp only [World.size_alloc, World.size_setCell, World.size_drew, size_put]); omega) | (simp; done)))⟩
          case measure => simp [intOf]; omega
      · have Hno : Hid (¬ x.lift ∈ (xs.take k).map RT.lift) := by
          have h := Hl.out
          have hd : (xs.take k).drop j = [] := List.drop_eq_nil_of_le (by simp; omega)
          rw [hd] at h
          have h2 := liftIn_mem x.lift (xs.take k)
          rw [← h] at h2
          show ¬ _
          intro hm
          rw [decide_eq_true hm] at h2
          cases h2
        cases hh : hoursF x.peak
        · have HE : Hid (V = 1) := by show V = 1; rw [← HV.out, rateE, if_neg (by rw [Hbad.out]; simp), if_neg Hno.out, if_pos hh]
          go_wp2_with fail
          refine ((hh ▸ ref02_Right x.sp x.peak _ (Ha.out.toW (by (repeat' (first | (with_reducible exact Below.refl _ _) | (with_reducible exact Nat.le_refl _) | (with_reducible assumption) | (with_reducible refine below_step ?_ ?_ hr) | (with_reducible refine below_over ?_ ?_ _) | (with_reducible refine Below.alloc ?_ ?_ _) | (with_reducible refine Below.setCell ?_ ?_ _) | (with_reducible refine below_put ?_ ?_ _) | (with_reducible refine Below.drew ?_) | (with_reducible refine below_drewN_ ?_ _) | (with_reducible refine le_drewN ?_ _) | (with_reducible refine over_le _ _ _ ?_) | (with_reducible refine le_alloc ?_ _) | (with_reducible refine le_setCell ?_ _ _) | (with_reducible refine le_put ?_ _ _) | (with_reducible refine le_drew ?_) | dsimp only | omega | ((try simp only [World.size_alloc, World.size_setCell, World.size_drew, size_put]); omega) | (simp; done))))))).mono ?_
          rintro e w2 hg
          obtain ⟨rfl, hb⟩ := hg.below
          clear hg
          have hz := hb.size
          (try simp only [World.size_alloc, World.size_setCell, World.size_drew, size_put] at hz)
          have hB : Below w.heap.size w w2 := below_step (by (repeat' (first | (with_reducible exact Below.refl _ _) | (with_reducible exact Nat.le_refl _) | (with_reducible assumption) | (with_reducible refine below_step ?_ ?_ hr) | (with_reducible refine below_over ?_ ?_ _) | (with_reducible refine Below.alloc ?_ ?_ _) | (with_reducible refine Below.setCell ?_ ?_ _) | (with_reducible refine below_put ?_ ?_ _) | (with_reducible refine Below.drew ?_) | (with_reducible refine below_drewN_ ?_ _) | (with_reducible refine le_drewN ?_ _) | (with_reducible refine over_le _ _ _ ?_) | (with_reducible refine le_alloc ?_ _) | (with_reducible refine le_setCell ?_ _ _) | (with_reducible refine le_put ?_ _ _) | (with_reducible refine le_drew ?_) | dsimp only | omega | ((try simp only [World.size_alloc, World.size_setCell, World.size_drew, size_put]); omega) | (simp; done)))) (by (first | omega | ((try simp only [World.size_alloc, World.size_setCell, World.size_drew, size_put]); omega))) hb
          clear hb
          go_wp2_with fail
          go_ret
          exact gives_of (ret_int HE.out.symm) (by go_light; (repeat' (first | (with_reducible exact Below.refl _ _) | (with_reducible exact Nat.le_refl _) | (with_reducible assumption) | (with_reducible refine below_step ?_ ?_ hr) | (with_reducible refine below_over ?_ ?_ _) | (with_reducible refine Below.alloc ?_ ?_ _) | (with_reducible refine Below.setCell ?_ ?_ _) | (with_reducible refine below_put ?_ ?_ _) | (with_reducible refine Below.drew ?_) | (with_reducible refine below_drewN_ ?_ _) | (with_reducible refine le_drewN ?_ _) | (with_reducible refine over_le _ _ _ ?_) | (with_reducible refine le_alloc ?_ _) | (with_reducible refine le_setCell ?_ _ _) | (with_reducible refine le_put ?_ _ _) | (with_reducible refine le_drew ?_) | dsimp only | omega | ((try simp only [World.size_alloc, World.size_setCell, World.size_drew, size_put]); omega) | (simp; done))))
        · have HE : Hid (V = 0) := by show V = 0; rw [← HV.out, rateE, if_neg (by rw [Hbad.out]; simp), if_neg Hno.out, if_neg (by rw [hh]; simp)]
          go_wp2_with fail
          refine ((hh ▸ ref02_Right x.sp x.peak _ (Ha.out.toW (by (repeat' (first | (with_reducible exact Below.refl _ _) | (with_reducible exact Nat.le_refl _) | (with_reducible assumption) | (with_reducible refine below_step ?_ ?_ hr) | (with_reducible refine below_over ?_ ?_ _) | (with_reducible refine Below.alloc ?_ ?_ _) | (with_reducible refine Below.setCell ?_ ?_ _) | (with_reducible refine below_put ?_ ?_ _) | (with_reducible refine Below.drew ?_) | (with_reducible refine below_drewN_ ?_ _) | (with_reducible refine le_drewN ?_ _) | (with_reducible refine over_le _ _ _ ?_) | (with_reducible refine le_alloc ?_ _) | (with_reducible refine le_setCell ?_ _ _) | (with_reducible refine le_put ?_ _ _) | (with_reducible refine le_drew ?_) | dsimp only | omega | ((try simp only [World.size_alloc, World.size_setCell, World.size_drew, size_put]); omega) | (simp; done))))))).mono ?_
          rintro e w2 hg
          obtain ⟨rfl, hb⟩ := hg.below
          clear hg
          have hz := hb.size
          (try simp only [World.size_alloc, World.size_setCell, World.size_drew, size_put] at hz)
          have hB : Below w.heap.size w w2 := below_step (by (repeat' (first | (with_reducible exact Below.refl _ _) | (with_reducible exact Nat.le_refl _) | (with_reducible assumption) | (with_reducible refine below_step ?_ ?_ hr) | (with_reducible refine below_over ?_ ?_ _) | (with_reducible refine Below.alloc ?_ ?_ _) | (with_reducible refine Below.setCell ?_ ?_ _) | (with_reducible refine below_put ?_ ?_ _) | (with_reducible refine Below.drew ?_) | (with_reducible refine below_drewN_ ?_ _) | (with_reducible refine le_drewN ?_ _) | (with_reducible refine over_le _ _ _ ?_) | (with_reducible refine le_alloc ?_ _) | (with_reducible refine le_setCell ?_ _ _) | (with_reducible refine le_put ?_ _ _) | (with_reducible refine le_drew ?_) | dsimp only | omega | ((try simp only [World.size_alloc, World.size_setCell, World.size_drew, size_put]); omega) | (simp; done)))) (by (first | omega | ((try simp only [World.size_alloc, World.size_setCell, World.size_drew, size_put]); omega))) hb
          clear hb
          go_wp2_with fail
          go_ret
          exact gives_of (ret_int HE.out.symm) (by go_light; (repeat' (first | (with_reducible exact Below.refl _ _) | (with_reducible exact Nat.le_refl _) | (with_reducible assumption) | (with_reducible refine below_step ?_ ?_ hr) | (with_reducible refine below_over ?_ ?_ _) | (with_reducible refine Below.alloc ?_ ?_ _) | (with_reducible refine Below.setCell ?_ ?_ _) | (with_reducible refine below_put ?_ ?_ _) | (with_reducible refine Below.drew ?_) | (with_reducible refine below_drewN_ ?_ _) | (with_reducible refine le_drewN ?_ _) | (with_reducible refine over_le _ _ _ ?_) | (with_reducible refine le_alloc ?_ _) | (with_reducible refine le_setCell ?_ _ _) | (with_reducible refine le_put ?_ _ _) | (with_reducible refine le_drew ?_) | dsimp only | omega | ((try simp only [World.size_alloc, World.size_setCell, World.size_drew, size_put]); omega) | (simp; done))))
  · have HE : Hid (V = 2) := by show V = 2; rw [← HV.out, rateE, if_pos hbad]
    have Hbad := Lib.hid hbad
    clear hbad
    (go_enter Try.func25, Try.ntmps25; try dsimp only [List.append])
    go_wp2
    all_goals first
      | (go_ret; exact gives_of (ret_int HE.out.symm) (by go_light; (repeat' (first | (with_reducible exact Below.refl _ _) | (with_reducible exact Nat.le_refl _) | (with_reducible assumption) | (with_reducible refine below_step ?_ ?_ hr) | (with_reducible refine below_over ?_ ?_ _) | (with_reducible refine Below.alloc ?_ ?_ _) | (with_reducible refine Below.setCell ?_ ?_ _) | (with_reducible refine below_put ?_ ?_ _) | (with_reducible refine Below.drew ?_) | (with_reducible refine below_drewN_ ?_ _) | (with_reducible refine le_drewN ?_ _) | (with_reducible refine over_le _ _ _ ?_) | (with_reducible refine le_alloc ?_ _) | (with_reducible refine le_setCell ?_ _ _) | (with_reducible refine le_put ?_ _ _) | (with_reducible refine le_drew ?_) | dsimp only | omega | ((try simp only [World.size_alloc, World.size_setCell, World.size_drew, size_put]); omega) | (simp; done)))))
      | (exfalso; go_light; have h := Hbad.out; simp [RT.bad] at h; omega)
end Go.Proofs.Ytidefepnkhkkiaa
