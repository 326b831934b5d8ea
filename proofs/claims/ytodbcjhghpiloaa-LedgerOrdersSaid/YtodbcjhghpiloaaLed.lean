/- Ledger: postings; the check of postings, of the program and of the reference. -/
import Derived.Test.YtodbcjhghpiloaaChecked
import Derived.Test.YtodbcjhghpiloaaMapSet
import Derived.Test.YtodbcjhghpiloaaLet
namespace Go.Proofs.Ytodbcjhghpiloaa
set_option linter.unusedSimpArgs false
set_option linter.unusedVariables false
open Go.RowKit
theorem U_int : Try.prog.underlying 3 = some (.int .i64) := Try.underlying3
theorem U_bool : Try.prog.underlying 4 = some .bool := Try.underlying4
theorem zero_bool (w : World) : (zeroValue 4).run Try.prog w = .ok (.bool false) w := by kernel_rfl
abbrev Seen (w : World) (b n : Nat) (acc : List Int) : Prop := OwnS Try.prog 3 4 w b n acc
structure PV where
  ref : Int
  from_ : Int
  to_ : Int
  amount : Int
deriving DecidableEq
abbrev PV.val (r : PV) : Value := .agg #[.int .i64 r.ref, .int .i64 r.from_, .int .i64 r.to_, .int .i64 r.amount]
def PV.enc (r : PV) : List Value := [.int .i64 r.ref, .int .i64 r.from_, .int .i64 r.to_, .int .i64 r.amount]
theorem Rd.pv {w : World} {s : Sl} {xs : List PV} (h : Rd w PV.enc s xs) {k : Nat} (hk : k < s.n) : ∃ b off x, s.a = some ⟨b, off, none⟩ ∧ b < w.heap.size ∧ Hid (xs.drop k = x :: xs.drop (k + 1)) ∧ Hid (xs[k]? = some x) ∧
    w.cell? ⟨b, off + k * 4, none⟩ = some (.int .i64 x.ref) ∧ w.cell? ⟨b, off + k * 4 + 1, none⟩ = some (.int .i64 x.from_) ∧ w.cell? ⟨b, off + k * 4 + 2, none⟩ = some (.int .i64 x.to_) ∧ w.cell? ⟨b, off + k * 4 + 3, none⟩ = some (.int .i64 x.amount) := by
  obtain ⟨b, off, x, e, hb, h1, h2, hc⟩ := h.step hk
  exact ⟨b, off, x, e, hb, h1, h2, hc 0 _ rfl, hc 1 _ rfl, hc 2 _ rfl, hc 3 _ rfl⟩
def PV.bad (p : PV) : Bool := decide (p.ref < 1) || (decide (1000000000 < p.ref) || (decide (p.from_ < 0) || (decide (9999 < p.from_) || (decide (p.to_ < 0) || (decide (9999 < p.to_) || (decide (p.amount < 1) || decide (1099511627776 < p.amount)))))))
theorem PV.bad_of {p : PV} (h : p.bad = false) : ¬ p.ref < 1 ∧ ¬ 1000000000 < p.ref ∧ ¬ p.from_ < 0 ∧ ¬ 9999 < p.from_ ∧ ¬ p.to_ < 0 ∧ ¬ 9999 < p.to_ ∧ ¬ p.amount < 1 ∧ ¬ 1099511627776 < p.amount := by
  simp [PV.bad] at h; omega
def postE (seen : List Int) (p : PV) : Int := if p.bad = true then 2 else if p.from_ = p.to_ then 1 else if p.ref ∈ seen then 7 else 0
def postsL : List Int → List PV → Int
  | _, [] => 0
  | seen, r :: rs => if postE seen r = 0 then postsL (seen ++ [r.ref]) rs else postE seen r
def rightP (l : List PV) : Int := if 2000 < l.length then 4 else postsL [] l
theorem postsL_stop {seen : List Int} {r : PV} {rs : List PV} {e : Int} (h : postE seen r = e) (he : e ≠ 0) : postsL seen (r :: rs) = e := by
  show (if postE seen r = 0 then _ else postE seen r) = e
  rw [h, if_neg he]
theorem postsL_go {seen : List Int} {r : PV} {rs : List PV} (h : postE seen r = 0) : postsL seen (r :: rs) = postsL (seen ++ [r.ref]) rs := by
  show (if postE seen r = 0 then _ else postE seen r) = _
  rw [if_pos h]
theorem refs_take {xs : List PV} {k : Nat} {x : PV} (h : xs[k]? = some x) : (xs.take (k + 1)).map PV.ref = (xs.take k).map PV.ref ++ [x.ref] := by
  rw [List.take_add_one, h]; simp
set_option maxRecDepth 100000 in
set_option maxHeartbeats 400000 in
theorem ledger_isAccount (v : Int) (w : World) (h0 : 0 ≤ v) (h1 : v ≤ 9999) : Calls Try.prog 26 #[.int .i64 v] w fun e w' => e = .returned (.bool true) ∧ w = w' := by
  (go_enter Try.func26, Try.ntmps26; try dsimp only [List.append])
  go_wp2
  go_ret
  exact ⟨rfl, rfl⟩
set_option maxRecDepth 100000 in
set_option maxHeartbeats 1600000 in
theorem ledger_Right (s : Sl) (xs : List PV) (w : World) (hs : Rd w PV.enc s xs) : Calls Try.prog 11 #[s.val] w (Gives (.int .i64 (rightP xs)) w) := by
  obtain ⟨A, n, c⟩ := s
  have hmax : n ≤ 9223372036854775807 := hs.bound
  have hml : n ≤ maxLen := Nat.le_trans hs.cap hs.max
  have Hml := Lib.hid hml
  have Hn : Hid (xs.length = n) := hs.len
  clear hml
  have Hs := Lib.hid hs
  clear hs
  simp only [Sl.val]
  by_cases hbig : 2000 < n
  · have h2 : (2000 : Int) < n := by omega
    (go_enter Try.func11, Try.ntmps11; try dsimp only [List.append])
    go_wp2_with fail
    go_ret
    exact gives_of (ret_int (by rw [rightP, if_pos (by have := Hn.out; omega)])) (by go_light; (repeat' (first | (with_reducible exact Below.refl _ _) | (with_reducible exact Nat.le_refl _) | (with_reducible assumption) | (with_reducible refine below_step ?_ ?_ hr) | (with_reducible refine below_over ?_ ?_ _) | (with_reducible refine Below.alloc ?_ ?_ _) | (with_reducible refine Below.setCell ?_ ?_ _) | (with_reducible refine below_put ?_ ?_ _) | (with_reducible refine Below.drew ?_) | (with_reducible refine below_drewN_ ?_ _) | (with_reducible refine le_drewN ?_ _) | (with_reducible refine over_le _ _ _ ?_) | (with_reducible refine le_alloc ?_ _) | (with_reducible refine le_setCell ?_ _ _) | (with_reducible refine le_put ?_ _ _) | (with_reducible refine le_drew ?_) | dsimp only | omega | ((try simp only [World.size_alloc, World.size_setCell, World.size_drew, size_put]); omega) | (simp; done))))
  have HV : Hid (rightP xs = postsL [] xs) := by show _ = _; rw [rightP, if_neg (by have := Hn.out; omega)]
  rw [HV.out]
  generalize hV : postsL [] xs = V
  have HV2 := Lib.hid hV
  clear hV HV
  have h2 : decide ((2000 : Int) < n) = false := by simp; omega
  have hmm := @run_makeMap Try.prog
  (go_enter Try.func11, Try.ntmps11; try dsimp only [List.append])
  go_wp2_with fail
  clear hmm
  go_loopw [12] (fun i wr => ∃ k : Nat, k ≤ n ∧ i = .int .i64 k ∧ Hid (postsL ((xs.take k).map PV.ref) (xs.drop k) = V) ∧ Below w.heap.size w wr ∧ Hid (Seen wr w.heap.size k ((xs.take k).map PV.ref))) (fun i _ => n - (intOf i).toNat)
  case atStart => exact ⟨0, Nat.zero_le _, rfl, HV2, by (repeat' (first | (with_reducible exact Below.refl _ _) | (with_reducible exact Nat.le_refl _) | (with_reducible assumption) | (with_reducible refine below_step ?_ ?_ hr) | (with_reducible refine below_over ?_ ?_ _) | (with_reducible refine Below.alloc ?_ ?_ _) | (with_reducible refine Below.setCell ?_ ?_ _) | (with_reducible refine below_put ?_ ?_ _) | (with_reducible refine Below.drew ?_) | (with_reducible refine below_drewN_ ?_ _) | (with_reducible refine le_drewN ?_ _) | (with_reducible refine over_le _ _ _ ?_) | (with_reducible refine le_alloc ?_ _) | (with_reducible refine le_setCell ?_ _ _) | (with_reducible refine le_put ?_ _ _) | (with_reducible refine le_drew ?_) | dsimp only | omega | ((try simp only [World.size_alloc, World.size_setCell, World.size_drew, size_put]); omega) | (simp; done))), OwnS.made _ _ _ w⟩
  case round =>
    obtain ⟨k, hk, rfl, Hl, hB, HO⟩ := hrel
    have hz := hB.size
    have hlt0 := HO.out.lt
    by_cases hlt : k < n
    · obtain ⟨b, off, x, rfl, hbw, Hx, Hx0, hc0, hc1, hc2, hc3⟩ := Hs.out.pv hlt
      have e0 := (hB.cell (p := ⟨b, _, none⟩) hbw).trans hc0
      have e1 := (hB.cell (p := ⟨b, _, none⟩) hbw).trans hc1
      have e2 := (hB.cell (p := ⟨b, _, none⟩) hbw).trans hc2
      have e3 := (hB.cell (p := ⟨b, _, none⟩) hbw).trans hc3
      clear hc0 hc1 hc2 hc3
      have Ht := Lib.hid (refs_take Hx0.out)
      rw [Hx.out] at Hl
      generalize hacc : (xs.take k).map PV.ref = acc at Hl HO Ht
      clear hacc
      cases hbad : x.bad
      · have Hbad := Lib.hid hbad
        obtain ⟨h1, h2, h3, h4, h5, h6, h7, h8⟩ := PV.bad_of hbad
        clear hbad
        have Hw : Hid ((Lit.int .i64 x.ref).wf = true) := i64_wf (by omega) (by omega)
        by_cases hft : x.from_ = x.to_
        · have hfb : (x.from_ == x.to_) = true := by simpa using hft
          have HE : Hid (postE acc x = 1) := by show postE acc x = 1; rw [postE, if_neg (by rw [Hbad.out]; simp), if_pos hft]
          clear hft
          go_wp2_with (go_at_call 26; refine (ledger_isAccount _ _ (by omega) (by omega)).mono ?_; rintro e w' ⟨rfl, rfl⟩)
          go_ret
          exact gives_of (ret_int (by go_light; rw [← Hl.out, postsL_stop HE.out (by decide)])) (by go_light; (repeat' (first | (with_reducible exact Below.refl _ _) | (with_reducible exact Nat.le_refl _) | (with_reducible assumption) | (with_reducible refine below_step ?_ ?_ hr) | (with_reducible refine below_over ?_ ?_ _) | (with_reducible refine Below.alloc ?_ ?_ _) | (with_reducible refine Below.setCell ?_ ?_ _) | (with_reducible refine below_put ?_ ?_ _) | (with_reducible refine Below.drew ?_) | (with_reducible refine below_drewN_ ?_ _) | (with_reducible refine le_drewN ?_ _) | (with_reducible refine over_le _ _ _ ?_) | (with_reducible refine le_alloc ?_ _) | (with_reducible refine le_setCell ?_ _ _) | (with_reducible refine le_put ?_ _ _) | (with_reducible refine le_drew ?_) | dsimp only | omega | ((try simp only [World.size_alloc, World.size_setCell, World.size_drew, size_put]); omega) | (simp; done))))
        have hfb : (x.from_ == x.to_) = false := by simpa using hft
        by_cases hin : x.ref ∈ acc
        · have hd : decide (x.ref ∈ acc) = true := by simpa using hin
          have HE : Hid (postE acc x = 7) := by show postE acc x = 7; rw [postE, if_neg (by rw [Hbad.out]; simp), if_neg hft, if_pos hin]
          clear hin hft
          go_wp2_with (first | (at_lookup; refine wpList_lookup_set rfl _ _ rfl rfl (HO.out.kept (World.grownBy_alloc _ _ none) (by simp)) U_int Try.underlying44 U_bool (zero_bool _) x.ref Hw.out rfl _ hd ?_) | (go_at_call 26; refine (ledger_isAccount _ _ (by omega) (by omega)).mono ?_; rintro e w' ⟨rfl, rfl⟩))
          go_ret
          exact gives_of (ret_int (by go_light; rw [← Hl.out, postsL_stop HE.out (by decide)])) (by go_light; (repeat' (first | (with_reducible exact Below.refl _ _) | (with_reducible exact Nat.le_refl _) | (with_reducible assumption) | (with_reducible refine below_step ?_ ?_ hr) | (with_reducible refine below_over ?_ ?_ _) | (with_reducible refine Below.alloc ?_ ?_ _) | (with_reducible refine Below.setCell ?_ ?_ _) | (with_reducible refine below_put ?_ ?_ _) | (with_reducible refine Below.drew ?_) | (with_reducible refine below_drewN_ ?_ _) | (with_reducible refine le_drewN ?_ _) | (with_reducible refine over_le _ _ _ ?_) | (with_reducible refine le_alloc ?_ _) | (with_reducible refine le_setCell ?_ _ _) | (with_reducible refine le_put ?_ _ _) | (with_reducible refine le_drew ?_) | dsimp only | omega | ((try simp only [World.size_alloc, World.size_setCell, World.size_drew, size_put]); omega) | (simp; done))))
        · have hd : decide (x.ref ∈ acc) = false := by simpa using hin
          have HE : Hid (postE acc x = 0) := by show postE acc x = 0; rw [postE, if_neg (by rw [Hbad.out]; simp), if_neg hft, if_neg hin]
          clear hin hft
          have hb7 : decide (x.amount < 1) = false := by simpa using h7
          have hb8 : decide (1099511627776 < x.amount) = false := by simpa using h8
          go_wp2_with (first | (at_lookup; refine wpList_lookup_set rfl _ _ rfl rfl (HO.out.kept (World.grownBy_alloc _ _ none) (by simp)) U_int Try.underlying44 U_bool (zero_bool _) x.ref Hw.out rfl _ hd ?_) | (at_mapUpdate; refine wpList_update_set rfl _ _ _ rfl rfl (HO.out.kept (World.grownBy_alloc _ _ none) (by simp)) U_int Try.underlying44 U_bool (by have := Hml.out; omega) x.ref Hw.out rfl rfl ?_; intro w1 HO1 hg; have hB1 : Below w.heap.size w w1 := (hB.alloc (by omega) _).grown hg (by simp; omega) (fun k hk => by cases hk; exact Nat.le_refl _); clear hg) | (go_at_call 26; refine (ledger_isAccount _ _ (by omega) (by omega)).mono ?_; rintro e w' ⟨rfl, rfl⟩))
          go_roundw
          case rel => exact ⟨k + 1, by omega, by go_num, Lib.hid (by go_light; rw [Ht.out, ← Hl.out, postsL_go HE.out]), by go_light; (repeat' (first | (with_reducible exact Below.refl _ _) | (with_reducible exact Nat.le_refl _) | (with_reducible assumption) | (with_reducible refine below_step ?_ ?_ hr) | (with_reducible refine below_over ?_ ?_ _) | (with_reducible refine Below.alloc ?_ ?_ _) | (with_reducible refine Below.setCell ?_ ?_ _) | (with_reducible refine below_put ?_ ?_ _) | (with_reducible refine Below.drew ?_) | (with_reducible refine below_drewN_ ?_ _) | (with_reducible refine le_drewN ?_ _) | (with_reducible refine over_le _ _ _ ?_) | (with_reducible refine le_alloc ?_ _) | (with_reducible refine le_setCell ?_ _ _) | (with_reducible refine le_put ?_ _ _) | (with_reducible refine le_drew ?_) | dsimp only | omega | ((try simp only [World.size_alloc, World.size_setCell, World.size_drew, size_put]); omega) | (simp; done))), by go_light; rw [← Ht.out] at HO1; exact HO1⟩
          case measure => simp [intOf]; omega
      · have HE : Hid (postE acc x = 2) := by show postE acc x = 2; rw [postE, if_pos hbad]
        have Hbad := Lib.hid hbad
        clear hbad
        go_wp2
        all_goals first
          | (exfalso; go_light; have h := Hbad.out; simp [PV.bad] at h; omega)
          | (go_ret; exact gives_of (ret_int (by go_light; rw [← Hl.out, postsL_stop HE.out (by decide)])) (by go_light; (repeat' (first | (with_reducible exact Below.refl _ _) | (with_reducible exact Nat.le_refl _) | (with_reducible assumption) | (with_reducible refine below_step ?_ ?_ hr) | (with_reducible refine below_over ?_ ?_ _) | (with_reducible refine Below.alloc ?_ ?_ _) | (with_reducible refine Below.setCell ?_ ?_ _) | (with_reducible refine below_put ?_ ?_ _) | (with_reducible refine Below.drew ?_) | (with_reducible refine below_drewN_ ?_ _) | (with_reducible refine le_drewN ?_ _) | (with_reducible refine over_le _ _ _ ?_) | (with_reducible refine le_alloc ?_ _) | (with_reducible refine le_setCell ?_ _ _) | (with_reducible refine le_put ?_ _ _) | (with_reducible refine le_drew ?_) | dsimp only | omega | ((try simp only [World.size_alloc, World.size_setCell, World.size_drew, size_put]); omega) | (simp; done)))))
    · have Hd : Hid (V = 0) := by show V = 0; rw [← Hl.out, Hs.out.done_ hlt]; rfl
      go_wp2
      go_ret
      exact gives_of (ret_int Hd.out.symm) (by go_light; (repeat' (first | (with_reducible exact Below.refl _ _) | (with_reducible exact Nat.le_refl _) | (with_reducible assumption) | (with_reducible refine below_step ?_ ?_ hr) | (with_reducible refine below_over ?_ ?_ _) | (with_reducible refine Below.alloc ?_ ?_ _) | (with_reducible refine Below.setCell ?_ ?_ _) | (with_reducible refine below_put ?_ ?_ _) | (with_reducible refine Below.drew ?_) | (with_reducible refine below_drewN_ ?_ _) | (with_reducible refine le_drewN ?_ _) | (with_reducible refine over_le _ _ _ ?_) | (with_reducible refine le_alloc ?_ _) | (with_reducible refine le_setCell ?_ _ _) | (with_reducible refine le_put ?_ _ _) | (with_reducible refine le_drew ?_) | dsimp only | omega | ((try simp only [World.size_alloc, World.size_setCell, World.size_drew, size_put]); omega) | (simp; done))))
def refIn (v : Int) : List PV → Bool
  | [] => false
  | r :: rs => if r.ref = v then true else refIn v rs
theorem refIn_mem (v : Int) : ∀ l : List PV, refIn v l = decide (v ∈ l.map PV.ref)
  | [] => by simp [refIn]
  | r :: rs => by
    have ih := refIn_mem v rs
    unfold refIn
    by_cases h : r.ref = v
    · rw [if_pos h]; simp [h]
    · rw [if_neg h, ih]
      have h' : ¬ v = r.ref := fun e => h e.symm
      simp [h']
theorem take_drop_cons {α : Type} {xs : List α} {j k : Nat} {y : α} (hj : j < k) (h : xs[j]? = some y) : (xs.take k).drop j = y :: (xs.take k).drop (j + 1) := by
  have hj2 : j < (xs.take k).length := by have := (List.getElem?_eq_some_iff.1 h).1; simp; omega
  rw [List.drop_eq_getElem_cons hj2]
  congr 1
  rw [List.getElem_take]
  exact (List.getElem?_eq_some_iff.1 h).2
set_option maxRecDepth 100000 in
set_option maxHeartbeats 1600000 in
theorem ref09_Right (s : Sl) (xs : List PV) (w : World) (hs : Rd w PV.enc s xs) : Calls Try.prog 12 #[s.val] w (Gives (.int .i64 (rightP xs)) w) := by
  obtain ⟨A, n, c⟩ := s
  have hmax : n ≤ 9223372036854775807 := hs.bound
  have Hn : Hid (xs.length = n) := hs.len
  have Hs := Lib.hid hs
  clear hs
  simp only [Sl.val]
  by_cases hbig : 2000 < n
  · have h2 : (2000 : Int) < n := by omega
    (go_enter Try.func12, Try.ntmps12; try dsimp only [List.append])
    go_wp2_with fail
    go_ret
    exact gives_of (ret_int (by rw [rightP, if_pos (by have := Hn.out; omega)])) (by go_light; (repeat' (first | (with_reducible exact Below.refl _ _) | (with_reducible exact Nat.le_refl _) | (with_reducible assumption) | (with_reducible refine below_step ?_ ?_ hr) | (with_reducible refine below_over ?_ ?_ _) | (with_reducible refine Below.alloc ?_ ?_ _) | (with_reducible refine Below.setCell ?_ ?_ _) | (with_reducible refine below_put ?_ ?_ _) | (with_reducible refine Below.drew ?_) | (with_reducible refine below_drewN_ ?_ _) | (with_reducible refine le_drewN ?_ _) | (with_reducible refine over_le _ _ _ ?_) | (with_reducible refine le_alloc ?_ _) | (with_reducible refine le_setCell ?_ _ _) | (with_reducible refine le_put ?_ _ _) | (with_reducible refine le_drew ?_) | dsimp only | omega | ((try simp only [World.size_alloc, World.size_setCell, World.size_drew, size_put]); omega) | (simp; done))))
  have HV : Hid (rightP xs = postsL [] xs) := by show _ = _; rw [rightP, if_neg (by have := Hn.out; omega)]
  rw [HV.out]
  generalize hV : postsL [] xs = V
  have HV2 := Lib.hid hV
  clear hV HV
  have h2 : decide ((2000 : Int) < n) = false := by simp; omega
  (go_enter Try.func12, Try.ntmps12; try dsimp only [List.append])
  go_wp2_with fail
  go_loopw [3] (fun i wr => ∃ k : Nat, k ≤ n ∧ i = .int .i64 k ∧ Hid (postsL ((xs.take k).map PV.ref) (xs.drop k) = V) ∧ Below w.heap.size w wr) (fun i _ => n - (intOf i).toNat)
  case atStart => exact ⟨0, Nat.zero_le _, rfl, HV2, by (repeat' (first | (with_reducible exact Below.refl _ _) | (with_reducible exact Nat.le_refl _) | (with_reducible assumption) | (with_reducible refine below_step ?_ ?_ hr) | (with_reducible refine below_over ?_ ?_ _) | (with_reducible refine Below.alloc ?_ ?_ _) | (with_reducible refine Below.setCell ?_ ?_ _) | (with_reducible refine below_put ?_ ?_ _) | (with_reducible refine Below.drew ?_) | (with_reducible refine below_drewN_ ?_ _) | (with_reducible refine le_drewN ?_ _) | (with_reducible refine over_le _ _ _ ?_) | (with_reducible refine le_alloc ?_ _) | (with_reducible refine le_setCell ?_ _ _) | (with_reducible refine le_put ?_ _ _) | (with_reducible refine le_drew ?_) | dsimp only | omega | ((try simp only [World.size_alloc, World.size_setCell, World.size_drew, size_put]); omega) | (simp; done)))⟩
  case round =>
    obtain ⟨k, hk, rfl, Hl, hB⟩ := hrel
    have hz := hB.size
    by_cases hlt : k < n
    · obtain ⟨b, off, x, rfl, hbw, Hx, Hx0, hc0, hc1, hc2, hc3⟩ := Hs.out.pv hlt
      have e0 := (hB.cell (p := ⟨b, _, none⟩) hbw).trans hc0
      have e1 := (hB.cell (p := ⟨b, _, none⟩) hbw).trans hc1
      have e2 := (hB.cell (p := ⟨b, _, none⟩) hbw).trans hc2
      have e3 := (hB.cell (p := ⟨b, _, none⟩) hbw).trans hc3
      clear hc0 hc1 hc2 hc3
      have Ht := Lib.hid (refs_take Hx0.out)
      rw [Hx.out] at Hl
      cases hbad : x.bad
      · have Hbad := Lib.hid hbad
        obtain ⟨h1, h2, h3, h4, h5, h6, h7, h8⟩ := PV.bad_of hbad
        clear hbad
        by_cases hft : x.from_ = x.to_
        · have hfb : (x.from_ == x.to_) = true := by simpa using hft
          have HE : Hid (postE ((xs.take k).map PV.ref) x = 1) := by show postE _ x = 1; rw [postE, if_neg (by rw [Hbad.out]; simp), if_pos hft]
          clear hft
          go_wp2_with fail
          go_ret
          exact gives_of (ret_int (by go_light; rw [← Hl.out, postsL_stop HE.out (by decide)])) (by go_light; (repeat' (first | (with_reducible exact Below.refl _ _) | (with_reducible exact Nat.le_refl _) | (with_reducible assumption) | (with_reducible refine below_step ?_ ?_ hr) | (with_reducible refine below_over ?_ ?_ _) | (with_reducible refine Below.alloc ?_ ?_ _) | (with_reducible refine Below.setCell ?_ ?_ _) | (with_reducible refine below_put ?_ ?_ _) | (with_reducible refine Below.drew ?_) | (with_reducible refine below_drewN_ ?_ _) | (with_reducible refine le_drewN ?_ _) | (with_reducible refine over_le _ _ _ ?_) | (with_reducible refine le_alloc ?_ _) | (with_reducible refine le_setCell ?_ _ _) | (with_reducible refine le_put ?_ _ _) | (with_reducible refine le_drew ?_) | dsimp only | omega | ((try simp only [World.size_alloc, World.size_setCell, World.size_drew, size_put]); omega) | (simp; done))))
        have hfb : (x.from_ == x.to_) = false := by simpa using hft
        have Hft := Lib.hid hft
        clear hft
        have hBo := hB
        go_wp2_with fail
        refine wp_letter (fun w1 hb => ?_)
        have hz := hb.size
        (try simp only [World.size_alloc, World.size_setCell, World.size_drew, size_put] at hz)
        have hB : Below wr.heap.size wr w1 := below_step (by (repeat' (first | (with_reducible exact Below.refl _ _) | (with_reducible exact Nat.le_refl _) | (with_reducible assumption) | (with_reducible refine below_step ?_ ?_ hr) | (with_reducible refine below_over ?_ ?_ _) | (with_reducible refine Below.alloc ?_ ?_ _) | (with_reducible refine Below.setCell ?_ ?_ _) | (with_reducible refine below_put ?_ ?_ _) | (with_reducible refine Below.drew ?_) | (with_reducible refine below_drewN_ ?_ _) | (with_reducible refine le_drewN ?_ _) | (with_reducible refine over_le _ _ _ ?_) | (with_reducible refine le_alloc ?_ _) | (with_reducible refine le_setCell ?_ _ _) | (with_reducible refine le_put ?_ _ _) | (with_reducible refine le_drew ?_) | dsimp only | omega | ((try simp only [World.size_alloc, World.size_setCell, World.size_drew, size_put]); omega) | (simp; done)))) (by (first | omega | ((try simp only [World.size_alloc, World.size_setCell, World.size_drew, size_put]); omega))) hb
        have Q' : w1.heap[wr.heap.size]? = _ := hb.block (wr.heap.size) (by (first | omega | ((try simp only [World.size_alloc, World.size_setCell, World.size_drew, size_put]); omega)))
        simp only [alloc_block_if, put_block_if, over_block_if, set_block_if, setObj_cells, drew_block, drewN_block, Option.map_some, List.setIfInBounds_toArray, List.set_cons_zero, List.set_cons_succ, World.size_alloc, World.size_setCell, size_put, World.size_drew, if_true, if_false, ↓IntWalk.iteOmega] at Q'
        have Qwr_0 := Q'
        clear Q'
        have qwr_0 := cell_of_block Qwr_0
        clear hb
        have hBw1 : Below w.heap.size w w1 := hBo.trans (hB.mono (by omega))
        clear e0 e1 e2 e3
        go_loopw [5] (fun i wq => ∃ j : Nat, j ≤ k ∧ i = .int .i64 j ∧ Hid (refIn x.ref ((xs.take k).drop j) = refIn x.ref (xs.take k)) ∧ Below w1.heap.size w1 wq) (fun i _ => k - (intOf i).toNat)
        case atStart => exact ⟨0, Nat.zero_le _, rfl, rfl, Below.refl _ _⟩
        case round =>
          obtain ⟨j, hj, rfl, Hq, hBr⟩ := hrel
          have hzr := hBr.size
          have hBw := hBw1.trans (hBr.mono (by omega))
          have q_0r := cell_of_block ((hBr.block _ (by omega)).trans Qwr_0)
          clear qwr_0
          by_cases hltj : j < k
          · obtain ⟨b', off', y, heq, hbw', Hy, Hy0, hd0, -, -, -⟩ := Hs.out.pv (show j < n by omega)
            obtain ⟨rfl, rfl⟩ : b = b' ∧ off = off' := by simpa using heq
            have f0 := (hBw.cell (p := ⟨b, _, none⟩) hbw).trans hd0
            clear hd0 heq hbw'
            have Hyd := Lib.hid (take_drop_cons hltj Hy0.out)
            rw [Hyd.out] at Hq
            by_cases hyl : y.ref = x.ref
            · have hyb : (y.ref == x.ref) = true := by simpa using hyl
              have HE : Hid (V = 7) := by
                have h := Hq.out
                rw [refIn, if_pos hyl, refIn_mem] at h
                show V = 7
                rw [← Hl.out, postsL_stop (by rw [postE, if_neg (by rw [Hbad.out]; simp), if_neg Hft.out, if_pos (by simpa using h.symm)]) (by decide)]
              clear hyl
              go_wp2_with fail
              all_goals refine wp_region_over (by kernel_rfl) (by kernel_rfl) ?_
              repeat (any_goals (first | go_big_quiet_step ((fail)) | (refine wpQuiet_step (fun K hK => ?_); go_simp; split <;> (refine hK _ ?_; clear hK K)) | quiet_step ((fail))))
              all_goals (refine wpQuiet_nil ?_; intro _ hw'; obtain ⟨xq, hw''⟩ := hw'; have hz := size_of hw''; (try simp only [World.size_alloc, World.size_setCell, World.size_drew] at hz); subst hw'')
              go_wp2_with fail
              go_ret
              exact gives_of (ret_int HE.out.symm) (by go_light; (repeat' (first | (with_reducible exact Below.refl _ _) | (with_reducible exact Nat.le_refl _) | (with_reducible assumption) | (with_reducible refine below_step ?_ ?_ hr) | (with_reducible refine below_over ?_ ?_ _) | (with_reducible refine Below.alloc ?_ ?_ _) | (with_reducible refine Below.setCell ?_ ?_ _) | (with_reducible refine below_put ?_ ?_ _) | (with_reducible refine Below.drew ?_) | (with_reducible refine below_drewN_ ?_ _) | (with_reducible refine le_drewN ?_ _) | (with_reducible refine over_le _ _ _ ?_) | (with_reducible refine le_alloc ?_ _) | (with_reducible refine le_setCell ?_ _ _) | (with_reducible refine le_put ?_ _ _) | (with_reducible refine le_drew ?_) | dsimp only | omega | ((try simp only [World.size_alloc, World.size_setCell, World.size_drew, size_put]); omega) | (simp; done))))
            · have hyb : (y.ref == x.ref) = false := by simpa using hyl
              have Hq2 : Hid (refIn x.ref ((xs.take k).drop (j + 1)) = refIn x.ref (xs.take k)) := by
                have h := Hq.out
                rw [refIn, if_neg hyl] at h
                exact h
              clear hyl
              go_wp2_with fail
              all_goals refine wp_region_over (by kernel_rfl) (by kernel_rfl) ?_
              repeat (any_goals (first | go_big_quiet_step ((fail)) | (refine wpQuiet_step (fun K hK => ?_); go_simp; split <;> (refine hK _ ?_; clear hK K)) | quiet_step ((fail))))
              all_goals (refine wpQuiet_nil ?_; intro _ hw'; obtain ⟨xq, hw''⟩ := hw'; have hz := size_of hw''; (try simp only [World.size_alloc, World.size_setCell, World.size_drew] at hz); subst hw'')
              go_wp2_with fail
              go_roundw
              case rel => exact ⟨j + 1, by omega, by go_num, Hq2, by go_light; (repeat' (first | (with_reducible exact Below.refl _ _) | (with_reducible exact Nat.le_refl _) | (with_reducible assumption) | (with_reducible refine below_step ?_ ?_ hr) | (with_reducible refine below_over ?_ ?_ _) | (with_reducible refine Below.alloc ?_ ?_ _) | (with_reducible refine Below.setCell ?_ ?_ _) | (with_reducible refine below_put ?_ ?_ _) | (with_reducible refine Below.drew ?_) | (with_reducible refine below_drewN_ ?_ _) | (with_reducible refine le_drewN ?_ _) | (with_reducible refine over_le _ _ _ ?_) | (with_reducible refine le_alloc ?_ _) | (with_reducible refine le_setCell ?_ _ _) | (with_reducible refine le_put ?_ _ _) | (with_reducible refine le_drew ?_) | dsimp only | omega | ((try simp only [World.size_alloc, World.size_setCell, World.size_drew, size_put]); omega) | (simp; done)))⟩
              case measure => simp [intOf]; omega
          · have HE : Hid (postE ((xs.take k).map PV.ref) x = 0) := by
              have h := Hq.out
              have hd : (xs.take k).drop j = [] := List.drop_eq_nil_of_le (by simp; omega)
              rw [hd] at h
              have h2 := refIn_mem x.ref (xs.take k)
              rw [← h] at h2
              show _ = _
              rw [postE, if_neg (by rw [Hbad.out]; simp), if_neg Hft.out, if_neg (fun hm => by rw [decide_eq_true hm] at h2; cases h2)]
            go_wp2_with fail
            go_roundw
            case rel => exact ⟨k + 1, by omega, by go_num, Lib.hid (by go_light; rw [Ht.out, ← Hl.out, postsL_go HE.out]), by go_light; (repeat' (first | (with_reducible exact Below.refl _ _) | (with_reducible exact Nat.le_refl _) | (with_reducible assumption) | (with_reducible refine below_step ?_ ?_ hr) | (with_reducible refine below_over ?_ ?_ _) | (with_reducible refine Below.alloc ?_ ?_ _) | (with_reducible refine Below.setCell ?_ ?_ _) | (with_reducible refine below_put ?_ ?_ _) | (with_reducible refine Below.drew ?_) | (with_reducible refine below_drewN_ ?_ _) | (with_reducible refine le_drewN ?_ _) | (with_reducible refine over_le _ _ _ ?_) | (with_reducible refine le_alloc ?_ _) | (with_reducible refine le_setCell ?_ _ _) | (with_reducible refine le_put ?_ _ _) | (with_reducible refine le_drew ?_) | dsimp only | omega | ((try simp only [World.size_alloc, World.size_setCell, World.size_drew, size_put]); omega) | (simp; done)))⟩
            case measure => simp [intOf]; omega
      · have HE : Hid (postE ((xs.take k).map PV.ref) x = 2) := by show postE _ x = 2; rw [postE, if_pos hbad]
        have Hbad := Lib.hid hbad
        clear hbad
        go_wp2
        all_goals first
          | (exfalso; go_light; have h := Hbad.out; simp [PV.bad] at h; omega)
          | (go_ret; exact gives_of (ret_int (by go_light; rw [← Hl.out, postsL_stop HE.out (by decide)])) (by go_light; (repeat' (first | (with_reducible exact Below.refl _ _) | (with_reducible exact Nat.le_refl _) | (with_reducible assumption) | (with_reducible refine below_step ?_ ?_ hr) | (with_reducible refine below_over ?_ ?_ _) | (with_reducible refine Below.alloc ?_ ?_ _) | (with_reducible refine Below.setCell ?_ ?_ _) | (with_reducible refine below_put ?_ ?_ _) | (with_reducible refine Below.drew ?_) | (with_reducible refine below_drewN_ ?_ _) | (with_reducible refine le_drewN ?_ _) | (with_reducible refine over_le _ _ _ ?_) | (with_reducible refine le_alloc ?_ _) | (with_reducible refine le_setCell ?_ _ _) | (with_reducible refine le_put ?_ _ _) | (with_reducible refine le_drew ?_) | dsimp only | omega | ((try simp only [World.size_alloc, World.size_setCell, World.size_drew, size_put]); omega) | (simp; done)))))
    · have Hd : Hid (V = 0) := by show V = 0; rw [← Hl.out, Hs.out.done_ hlt]; rfl
      go_wp2_with fail
      go_ret
      exact gives_of (ret_int Hd.out.symm) (by go_light; (repeat' (first | (with_reducible exact Below.refl _ _) | (with_reducible exact Nat.le_refl _) | (with_reducible assumption) | (with_reducible refine below_step ?_ ?_ hr) | (with_reducible refine below_over ?_ ?_ _) | (with_reducible refine Below.alloc ?_ ?_ _) | (with_reducible refine Below.setCell ?_ ?_ _) | (with_reducible refine below_put ?_ ?_ _) | (with_reducible refine Below.drew ?_) | (with_reducible refine below_drewN_ ?_ _) | (with_reducible refine le_drewN ?_ _) | (with_reducible refine over_le _ _ _ ?_) | (with_reducible refine le_alloc ?_ _) | (with_reducible refine le_setCell ?_ _ _) | (with_reducible refine le_put ?_ _ _) | (with_reducible refine le_drew ?_) | dsimp only | omega | ((try simp only [World.size_alloc, World.size_setCell, World.size_drew, size_put]); omega) | (simp; done))))
end Go.Proofs.Ytodbcjhghpiloaa
