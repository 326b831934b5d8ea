/- Ledger: Accounts: the numbers of a map's keys, sorted. -/
import Derived.Test.YtodbcjhghpiloaaLedOf
import Derived.Test.YtodbcjhghpiloaaShelf
import Derived.Sort.OwnSortedInts
import Derived.Maps.RangeWalk
namespace Go.Proofs.Ytodbcjhghpiloaa
set_option linter.unusedSimpArgs false
set_option linter.unusedVariables false
open Go.RowKit Go.Sort
/-! The plain law. -/
def insI (n : Int) : List Int → List Int
  | [] => [n]
  | x :: r => if n < x then n :: x :: r else if n = x then x :: r else x :: insI n r
theorem insI_mem (n : Int) : ∀ (l : List Int) (y : Int), y ∈ insI n l ↔ y = n ∨ y ∈ l
  | [], y => by simp [insI]
  | x :: r, y => by
    have ih := insI_mem n r y
    unfold insI
    split
    · simp
    split
    · rename_i h; subst h; simp
    · simp only [List.mem_cons, ih]
      constructor
      · rintro (h | h | h) <;> simp [h]
      · rintro (h | h | h) <;> simp [h]
abbrev Inc (l : List Int) : Prop := l.Pairwise (fun a b => a < b)
theorem insI_inc (n : Int) : ∀ {l : List Int}, Inc l → Inc (insI n l)
  | [], _ => by simp [insI]
  | x :: r, h => by
    obtain ⟨h1, h2⟩ := List.pairwise_cons.1 h
    unfold insI
    split
    · rename_i hn
      refine List.pairwise_cons.2 ⟨fun y hy => ?_, h⟩
      rcases List.mem_cons.1 hy with rfl | hy
      · exact hn
      · have := h1 y hy; omega
    split
    · exact h
    · rename_i hn hne
      refine List.pairwise_cons.2 ⟨fun y hy => ?_, insI_inc n h2⟩
      rcases (insI_mem n r y).1 hy with rfl | hy
      · omega
      · exact h1 y hy
def accL : List Int → List PV → List Int
  | acc, [] => acc
  | acc, x :: r => accL (insI x.to_ (insI x.from_ acc)) r
def accP (xs : List PV) : List Int := accL [] xs
def keysP (xs : List PV) : List Int := xs.flatMap (fun x => [x.from_, x.to_])
theorem accL_inc : ∀ {xs : List PV} {acc : List Int}, Inc acc → Inc (accL acc xs)
  | [], _, h => h
  | _ :: r, _, h => accL_inc (xs := r) (insI_inc _ (insI_inc _ h))
theorem accL_mem : ∀ (xs : List PV) (acc : List Int) (y : Int), y ∈ accL acc xs ↔ y ∈ acc ∨ y ∈ keysP xs
  | [], acc, y => by simp [accL, keysP]
  | x :: r, acc, y => by
    have ih := accL_mem r (insI x.to_ (insI x.from_ acc)) y
    show y ∈ accL _ r ↔ _
    rw [ih, insI_mem, insI_mem]
    show _ ↔ y ∈ acc ∨ y ∈ [x.from_, x.to_] ++ keysP r
    simp only [List.mem_append, List.mem_cons, List.not_mem_nil, or_false]
    constructor
    · rintro ((h | h | h) | h) <;> simp [h]
    · rintro (h | (h | h) | h) <;> simp [h]
theorem accP_inc (xs : List PV) : Inc (accP xs) := accL_inc List.Pairwise.nil
theorem accP_mem (xs : List PV) (y : Int) : y ∈ accP xs ↔ y ∈ keysP xs := by rw [accP, accL_mem]; simp
abbrev sortI (l : List Int) : List Int := l.mergeSort fun x y => decide (x ≤ y)
theorem sort_inc {l m : List Int} (hl : l.Nodup) (hm : Inc m) (h : ∀ y, y ∈ l ↔ y ∈ m) : sortI l = m := by
  have hmn : m.Nodup := hm.imp (fun {a b} hab e => by omega)
  have hp : l.Perm m := (List.perm_ext_iff_of_nodup hl hmn).2 h
  have tr : ∀ a b c : Int, decide (a ≤ b) = true → decide (b ≤ c) = true → decide (a ≤ c) = true := fun a b c h1 h2 => by simp at *; omega
  have tot : ∀ a b : Int, (decide (a ≤ b) || decide (b ≤ a)) = true := fun a b => by simp; omega
  refine List.Perm.eq_of_pairwise (le := fun a b => decide (a ≤ b) = true) (fun a b _ _ h1 h2 => ?_) (List.pairwise_mergeSort tr tot l) (hm.imp (fun {a b} hab => by simp; omega)) ((List.mergeSort_perm l _).trans hp)
  simp at h1 h2; omega
/-- What was met of a set's keys. -/
def Coll (acc : List Int) (left : Lit → Bool) (ss : List Int) : Prop := ss.Nodup ∧ ∀ x, x ∈ ss ↔ (x ∈ acc ∧ left (.int .i64 x) = false)
theorem has_setD (acc : List Int) (x : Int) : Maps.has (setD acc) (.int .i64 x) = decide (x ∈ acc) := by
  unfold setD
  rw [Maps.has_setOf _ _ _ (fun y hy => by obtain ⟨z, _, rfl⟩ := List.mem_map.1 hy; exact trivial)]
  rw [Bool.eq_iff_iff, List.any_eq_true]
  simp only [List.mem_map, decide_eq_true_eq]
  constructor
  · rintro ⟨y, ⟨z, hz, rfl⟩, h⟩
    simp [Lit.sameKey] at h
    rw [← h]; exact hz
  · intro h
    exact ⟨.int .i64 x, ⟨x, h, rfl⟩, by simp [Lit.sameKey]⟩
theorem Coll.start (acc : List Int) : Coll acc (Maps.has (setD acc)) [] := ⟨List.nodup_nil, fun x => by rw [has_setD]; simp⟩
theorem Coll.step {acc : List Int} {left : Lit → Bool} {ss : List Int} (h : Coll acc left ss) {x : Int} {y : DataW Unit} (hl : left (.int .i64 x) = true) (hat : ∀ z, (setD acc).atKey (.int .i64 x) z = y) : Coll acc (fun z => left z && !z.sameKey (.int .i64 x)) (ss ++ [x]) := by
  have hx : x ∈ acc := by have h2 := Maps.has_true_of_atKey hat; rw [has_setD] at h2; simpa using h2
  have hnew : x ∉ ss := fun hx => by have := ((h.2 x).1 hx).2; rw [hl] at this; cases this
  refine ⟨List.nodup_append.2 ⟨h.1, by simp, fun a ha b hb => by simp at hb; subst hb; exact fun e => hnew (e ▸ ha)⟩, fun y => ?_⟩
  by_cases hy : y = x
  · subst hy; simp [hx, Lit.sameKey]
  · simp [h.2 y, hy, Lit.sameKey]
theorem Coll.done {acc : List Int} {left : Lit → Bool} {ss : List Int} (h : Coll acc left ss) (hl : ∀ kl, left kl = false) {m : List Int} (hm : Inc m) (hi : ∀ y, y ∈ m ↔ y ∈ acc) : sortI ss = m :=
  sort_inc h.1 hm (fun y => by rw [h.2 y, hl, hi]; simp)
theorem nodup_len {l : List Int} : ∀ {m : List Int}, l.Nodup → (∀ x ∈ l, x ∈ m) → l.length ≤ m.length := by
  induction l with
  | nil => intro m _ _; exact Nat.zero_le _
  | cons a r ih =>
    intro m hn hs
    obtain ⟨h1, h2⟩ := List.nodup_cons.1 hn
    have ha := hs a (List.mem_cons_self ..)
    have h3 := ih (m := m.erase a) h2 (fun x hx => (List.mem_erase_of_ne (fun e => h1 (by rw [← e]; exact hx))).2 (hs x (List.mem_cons_of_mem _ hx)))
    have h4 := List.length_erase_of_mem ha
    have h5 := List.length_pos_of_mem ha
    simp only [List.length_cons]
    omega
theorem Coll.len {acc : List Int} {left : Lit → Bool} {ss : List Int} (h : Coll acc left ss) : ss.length ≤ acc.length := by
  exact nodup_len h.1 (fun x hx => ((h.2 x).1 hx).1)
/-! A row of one's own, sorted. -/
theorem flatI : ∀ xs : List Int, xs.flatMap encI = xs.map (Value.int .i64)
  | [] => rfl
  | x :: r => by rw [List.flatMap_cons, flatI r]; rfl
theorem sort_own (w : World) (base : Nat) (v : Sl) (ss : List Int) (h : OwnI w base v ss) (hl : v.n ≤ 100000) (hb : base ≤ w.heap.size) : Calls Try.prog 29 #[v.val] w fun e w' => e = .returned (.tuple #[]) ∧ Below base w w' ∧ OwnI w' base v (sortI ss) := by
  obtain ⟨A, n, c⟩ := v
  have hn : ss.length = n := h.len
  dsimp only at hl
  rcases h.row.2 with ⟨hv, h0⟩ | ⟨g, cap, cur, hv, h3, h4, h5, h6, h7, h8⟩
  · injection hv with e1 e2 e3
    have h0' : n = 0 := h0
    subst e1 h0' e3
    have hs : ss = [] := List.eq_nil_of_length_eq_zero hn
    subst hs
    refine (Try.slices_Sort_int_none none 0 w).mono ?_
    rintro e w' ⟨rfl, rfl⟩
    exact ⟨rfl, Below.refl _ _, by simpa [sortI] using h⟩
  · injection hv with e1 e2 e3
    subst e1 e3 hn
    rw [flatI] at h8
    rw [Nat.mul_one] at h8
    have hH : Holds (Value.int .i64) w g 0 ss.toArray := holds_of_blockI (e := 3) h4 h8
    refine (Try.slices_Sort_int g 0 c ss w hH (Array.getElem?_eq_some_iff.1 h4).1 (by omega)).mono ?_
    rintro e w' ⟨rfl, q, os, rfl⟩
    refine ⟨rfl, Below.grown (Below.refl _ _) (grownBy_sortedI _) hb (fun j hj => by cases hj; exact h3), ⟨by simp [sortI], ?_⟩⟩
    have hr := ownsRow_sortedI (os := os) (n := q) (cap := c) (ss := ss) (ts := sortI ss) (by simp [sortI]) h3 h4 h5 h6 h7
    rw [flatI]
    exact hr
theorem keysP_take {xs : List PV} {k : Nat} {x : PV} (h : xs[k]? = some x) : keysP (xs.take (k + 1)) = keysP (xs.take k) ++ [x.from_] ++ [x.to_] := by
  rw [List.take_add_one, h]; simp [keysP]
theorem keysP_len (xs : List PV) : (keysP xs).length = 2 * xs.length := by
  induction xs with
  | nil => rfl
  | cons x r ih => show ([x.from_, x.to_] ++ keysP r).length = _; rw [List.length_append, ih]; simp; omega
theorem inv_bool {P : Program} {e : TypeId} (he : P.underlying e = some .bool) (v : Value) (y : DataW Unit × List MemPlace) (h : plainElem P e v = some y) : ∃ c, v = .bool c := by
  unfold plainElem at h
  rw [he] at h
  cases v <;> simp at h
  exact ⟨_, rfl⟩
theorem wpList_next_set {P : Program} {ops : Array Oper} {rest : List Oper} {o : Oper} {a : Act} {Q : Exit → Act → World → Prop} {k e : TypeId} (w : World) (hg : o.guard = none) (it : Operand) (hop : o.op = Op.next it false) (hk : P.underlying k = some (.int .i64)) (he : P.underlying e = some .bool)
    (b r n : Nat) (acc : List Int) (left : Lit → Bool) (cnt : Nat) (hit : a.eval it = .pointer (some ⟨r, 0, none⟩)) (h : w.ranges P k (plainElem (H := Unit) P e) b r n (setD acc) left cnt)
    (hDone : cnt = 0 → (∀ kl, left kl = false) → wpList P ops Q rest (a.put o.dst (.tuple #[.bool false])) w)
    (hMore : ∀ (x : Int) (u : Value) (y : DataW Unit) (w' : World) (cnt' : Nat), left (.int .i64 x) = true → (∀ zd, (setD acc).atKey (.int .i64 x) zd = y) → w'.ranges P k (plainElem (H := Unit) P e) b r n (setD acc) (fun z => left z && !z.sameKey (.int .i64 x)) cnt' → cnt' < cnt →
      w.grownBy w' (some r) → w'.heap.size = w.heap.size → (Instr.entry (.pointer (some ⟨r, 0, none⟩))).run P w' = .ok (.tuple #[.int .i64 x, u]) w' → wpList P ops Q rest (a.put o.dst (.tuple #[.bool true, .int .i64 x, u])) w') :
    wpList P ops Q (o :: rest) a w :=
  wpList_next_ranges w hg it hop k (Maps.int_keyed hk) (plainElem (H := Unit) P e) (Value.int .i64) Value.bool (fun key kl hk2 => by obtain ⟨x, hx, _⟩ := Maps.keyOf_int_inv hk hk2; exact ⟨x, hx⟩) (inv_bool he) b r n (setD acc) left cnt hit h hDone
    (fun x c kl y w' cnt' hkey hlk _ hat hrg hlt hgr hsz hen => by
      obtain ⟨x', ex, rfl, _⟩ := Maps.keyOf_int_inv hk hkey
      cases ex
      exact hMore x (.bool c) y.1 w' cnt' hlk hat hrg hlt hgr hsz hen)
def goodAcc (xs : List PV) : Prop := ∀ x ∈ xs, 0 ≤ x.from_ ∧ x.from_ ≤ 9999 ∧ 0 ≤ x.to_ ∧ x.to_ ≤ 9999
def wfAcc (xs : List PV) : Prop := ∀ x ∈ xs, (Lit.int .i64 x.from_).wf = true ∧ (Lit.int .i64 x.to_).wf = true
set_option maxRecDepth 100000 in
set_option maxHeartbeats 3200000 in
theorem ledger_Accounts (s : Sl) (xs : List PV) (w : World) (hs : Rd w PV.enc s xs) (hw : wfAcc xs) (hn : s.n ≤ 4000) : Calls Try.prog 21 #[s.val] w (OwnIPost (accP xs) w) := by
  obtain ⟨A, n, c⟩ := s
  dsimp only at hn
  have Hs := Lib.hid hs
  have Hw := Lib.hid hw
  have Hn : Hid (xs.length = n) := hs.len
  clear hs hw
  simp only [Sl.val]
  have Hmem := Lib.hid (accP_mem xs)
  have Hinc := Lib.hid (accP_inc xs)
  generalize hA : accP xs = AC at *
  clear hA
  have hmm := @run_makeMap Try.prog
  (go_enter Try.func21, Try.ntmps21; try dsimp only [List.append])
  go_wp2_with fail
  clear hmm
  go_loopw [11] (fun i wr => ∃ k : Nat, k ≤ n ∧ i = .int .i64 k ∧ Below w.heap.size w wr ∧ Hid (Seen wr w.heap.size (2 * k) (keysP (xs.take k)))) (fun i _ => n - (intOf i).toNat)
  case atStart => exact ⟨0, Nat.zero_le _, rfl, by (repeat' (first | (with_reducible exact Below.refl _ _) | (with_reducible exact Nat.le_refl _) | (with_reducible assumption) | (with_reducible refine below_step ?_ ?_ hr) | (with_reducible refine below_over ?_ ?_ _) | (with_reducible refine Below.alloc ?_ ?_ _) | (with_reducible refine Below.setCell ?_ ?_ _) | (with_reducible refine below_put ?_ ?_ _) | (with_reducible refine Below.drew ?_) | (with_reducible refine below_drewN_ ?_ _) | (with_reducible refine le_drewN ?_ _) | (with_reducible refine over_le _ _ _ ?_) | (with_reducible refine le_alloc ?_ _) | (with_reducible refine le_setCell ?_ _ _) | (with_reducible refine le_put ?_ _ _) | (with_reducible refine le_drew ?_) | dsimp only | omega | ((try simp only [World.size_alloc, World.size_setCell, World.size_drew, size_put]); omega) | (simp; done))), OwnS.made _ _ _ w⟩
  case round =>
    obtain ⟨k, hk, rfl, hB, HO⟩ := hrel
    have hz := hB.size
    have hlt0 := HO.out.lt
    by_cases hlt : k < n
    · obtain ⟨b, off, x, rfl, hbw, -, Hx0, hc0, hc1, hc2, hc3⟩ := Hs.out.pv hlt
      have e0 := (hB.cell (p := ⟨b, _, none⟩) hbw).trans hc0
      have e1 := (hB.cell (p := ⟨b, _, none⟩) hbw).trans hc1
      have e2 := (hB.cell (p := ⟨b, _, none⟩) hbw).trans hc2
      have e3 := (hB.cell (p := ⟨b, _, none⟩) hbw).trans hc3
      clear hc0 hc1 hc2 hc3
      obtain ⟨hwf, hwt⟩ := Hw.out x (List.mem_of_getElem? Hx0.out)
      have Hwf := Lib.hid hwf
      have Hwt := Lib.hid hwt
      have Ht := Lib.hid (keysP_take Hx0.out)
      clear hwf hwt
      generalize hacc : keysP (xs.take k) = acc at HO Ht
      clear hacc
      go_wp2_with (first
        | (at_mapUpdate
           refine wpList_update_set rfl _ _ _ rfl rfl (HO.out.kept (World.grownBy_alloc _ _ none) (by simp)) U_int Try.underlying44 U_bool (by simp only [maxLen]; omega) x.from_ Hwf.out rfl rfl ?_
           intro w1 HO1 hg
           have hB1 : Below w.heap.size w w1 := (hB.alloc (by omega) _).grown hg (by simp; omega) (fun k hk => by cases hk; exact Nat.le_refl _)
           have Qb : w1.heap[wr.heap.size]? = _ := hg.block wr.heap.size (by simp) (by simp; omega)
           rw [alloc_block_if, if_pos rfl] at Qb
           have qb := cell_of_block Qb
           have hz1 : wr.heap.size + 1 ≤ w1.heap.size := (by have := hg.size; simp at this; omega)
           have HO1 := Lib.hid HO1
           clear Qb hg)
        | (at_mapUpdate
           refine wpList_update_set rfl _ _ _ rfl rfl HO1.out U_int Try.underlying44 U_bool (by simp only [maxLen]; omega) x.to_ Hwt.out rfl rfl ?_
           intro w2 HO2 hg
           have hB2 : Below w.heap.size w w2 := hB1.grown hg (by omega) (fun k hk => by cases hk; exact Nat.le_refl _)
           have HO2 := Lib.hid HO2
           clear hg))
      go_roundw
      case rel => exact ⟨k + 1, by omega, by go_num, by go_light; (repeat' (first | (with_reducible exact Below.refl _ _) | (with_reducible exact Nat.le_refl _) | (with_reducible assumption) | (with_reducible refine below_step ?_ ?_ hr) | (with_reducible refine below_over ?_ ?_ _) | (with_reducible refine Below.alloc ?_ ?_ _) | (with_reducible refine Below.setCell ?_ ?_ _) | (with_reducible refine below_put ?_ ?_ _) | (with_reducible refine Below.drew ?_) | (with_reducible refine below_drewN_ ?_ _) | (with_reducible refine le_drewN ?_ _) | (with_reducible refine over_le _ _ _ ?_) | (with_reducible refine le_alloc ?_ _) | (with_reducible refine le_setCell ?_ _ _) | (with_reducible refine le_put ?_ _ _) | (with_reducible refine le_drew ?_) | dsimp only | omega | ((try simp only [World.size_alloc, World.size_setCell, World.size_drew, size_put]); omega) | (simp; done))), Lib.hid (by go_light; have h := HO2.out; rw [← Ht.out] at h; exact h)⟩
      case measure => (simp [intOf] <;> omega)
    · have HE : Hid (xs.take k = xs) := List.take_of_length_le (by rw [Hn.out]; omega)
      rw [HE.out] at HO
      have Hlen : Hid ((keysP xs).length ≤ 8000) := by have h := keysP_len xs; have h2 := Hn.out; show _ ≤ _; omega
      generalize hacc : keysP xs = acc at HO Hlen Hmem
      clear hacc
      go_wp2_with (at_range; refine wpList_range_own _ rfl _ 44 rfl 3 4 (Maps.int_keyed U_int) Try.underlying44 (plainElem (H := Unit) Try.prog 4) w.heap.size (2 * k) (setD acc) rfl HO.out ?_; intro w0 hrg0 hg0 hs0)
      go_frame
      have hB0 : Below w.heap.size w w0 := hB.grown hg0 (by omega) (fun j hj => by cases hj)
      have Hrg0 := Lib.hid hrg0
      clear hrg0
      obtain ⟨R, hR⟩ : ∃ R, R = wr.heap.size := ⟨_, rfl⟩
      rw [← hR] at Hrg0 hs0 ⊢
      have hwR : w.heap.size < R := by omega
      clear hR hg0
      go_loopw [6, 7] (fun u _ wq => ∃ (left : Lit → Bool) (cnt : Nat) (ss : List Int) (v : Sl), u = v.val ∧ Hid (wq.ranges Try.prog 3 (plainElem (H := Unit) Try.prog 4) w.heap.size R (2 * k) (setD acc) left cnt) ∧ Hid (Coll acc left ss) ∧ Hid (OwnI wq w0.heap.size v ss) ∧ Below w.heap.size w wq ∧ R < wq.heap.size) (fun _ _ wq => wq.rangeLeft w.heap.size R)
      case atStart => exact ⟨_, _, [], ⟨none, 0, 0⟩, rfl, Hrg0, Coll.start acc, Own.nil_ _ _ _ _ _, hB0, by omega⟩
      case round =>
        obtain ⟨left, cnt, ss, v, rfl, Hrg, HC, HV, hBq, hRq⟩ := hrel
        have hrg := Hrg.out
        have hvn : v.n ≤ 8000 := by have h1 := HV.out.len; have h2 := HC.out.len; have h3 := Hlen.out; omega
        go_wp2_with (at_next; refine wpList_next_set _ rfl _ rfl U_int U_bool w.heap.size R (2 * k) acc _ _ rfl hrg ?_ ?_)
        · intro hc0 hl0
          have HS := Lib.hid (HC.out.done hl0 Hinc.out Hmem.out)
          clear hc0 hl0 hrg
          go_wp2_with (go_at_call 29; refine (sort_own _ _ v ss HV.out (by omega) (by omega)).mono ?_; rintro e w5 ⟨rfl, hb5, hv5⟩; have HV5 := Lib.hid hv5; have hB5 : Below w.heap.size w w5 := hBq.trans (hb5.mono (by omega)); clear hv5 hb5)
          go_ret
          exact ⟨v, rfl, by go_light; (repeat' (first | (with_reducible exact Below.refl _ _) | (with_reducible exact Nat.le_refl _) | (with_reducible assumption) | (with_reducible refine below_step ?_ ?_ hr) | (with_reducible refine below_over ?_ ?_ _) | (with_reducible refine Below.alloc ?_ ?_ _) | (with_reducible refine Below.setCell ?_ ?_ _) | (with_reducible refine below_put ?_ ?_ _) | (with_reducible refine Below.drew ?_) | (with_reducible refine below_drewN_ ?_ _) | (with_reducible refine le_drewN ?_ _) | (with_reducible refine over_le _ _ _ ?_) | (with_reducible refine le_alloc ?_ _) | (with_reducible refine le_setCell ?_ _ _) | (with_reducible refine le_put ?_ _ _) | (with_reducible refine le_drew ?_) | dsimp only | omega | ((try simp only [World.size_alloc, World.size_setCell, World.size_drew, size_put]); omega) | (simp; done))), by go_light; rw [← HS.out]; exact HV5.out.base (by omega)⟩
        · intro x u y w1 cnt1 hlk hat hrg1 hlt1 hg1 hs1 hen
          have HC1 := Lib.hid (HC.out.step hlk hat)
          have HV1 := Lib.hid (HV.out.kept hg1 (by
            rcases h : v.val.ownBlock with _ | g
            · exact .inl rfl
            · have := (HV.out.block g h).1
              exact .inr (fun e => by have := Option.some.inj e; omega)))
          have Hrg1 := Lib.hid hrg1
          have hB1 : Below w.heap.size w w1 := hBq.grown hg1 (by omega) (fun j hj => by cases hj; omega)
          have hleft : cnt1 < cnt := hlt1
          have hR1 : R < w1.heap.size := by omega
          clear hrg hlk hat hrg1 hg1 hlt1 hs1
          go_wp2_with (first
            | (at_builtin
               obtain ⟨i0, hi, hi0, hi1, hi2⟩ := info_parts info_int
               go_must (refine wpList_append_rd rfl _ _ _ rfl w0.heap.size 3 i0 _ 1 8 Try.underlying38 hi hi0 hi1 hi2 rfl (by decide) (fun _ => rfl) one_int (s := v) (y := ⟨some ⟨w1.heap.size, 0, none⟩, 1, 1⟩) (xs := ss) (ys := [x]) rfl rfl (HV1.out.alloc' _) (rd_new 1 (fun _ => rfl) [_] rfl rfl rfl (by simp [maxLen])) (by simp only [maxLen]; omega) (by dsimp only; omega) (by simp; omega) ?_)
               clear hi hi0 hi1 hi2 i0
               intro v2 w2 hv hg hpos
               have HV2 := Lib.hid hv
               have Hrg2 := Lib.hid ((Hrg1.out.alloc _).kept hg (fun e => by have h := HV1.out.block _ e.symm; omega) (fun e => by have h := HV1.out.block _ e.symm; omega))
               have hB2 : Below w.heap.size w w2 := Below.grown (by (repeat' (first | (with_reducible exact Below.refl _ _) | (with_reducible exact Nat.le_refl _) | (with_reducible assumption) | (with_reducible refine below_step ?_ ?_ hr) | (with_reducible refine below_over ?_ ?_ _) | (with_reducible refine Below.alloc ?_ ?_ _) | (with_reducible refine Below.setCell ?_ ?_ _) | (with_reducible refine below_put ?_ ?_ _) | (with_reducible refine Below.drew ?_) | (with_reducible refine below_drewN_ ?_ _) | (with_reducible refine le_drewN ?_ _) | (with_reducible refine over_le _ _ _ ?_) | (with_reducible refine le_alloc ?_ _) | (with_reducible refine le_setCell ?_ _ _) | (with_reducible refine le_put ?_ _ _) | (with_reducible refine le_drew ?_) | dsimp only | omega | ((try simp only [World.size_alloc, World.size_setCell, World.size_drew, size_put]); omega) | (simp; done)))) hg (by simp; omega) (fun g hg2 => by have := (HV1.out.block g hg2).1; omega)
               have hRq2 : R < w2.heap.size := by have h := hg.size; simp at h; omega
               clear hv hg hpos))
          go_roundw
          case rel => exact ⟨_, cnt1, _, v2, rfl, Hrg2, HC1, HV2, hB2, hRq2⟩
          case measure => rw [Hrg2.out.left_eq, Hrg.out.left_eq]; exact hleft
end Go.Proofs.Ytodbcjhghpiloaa
