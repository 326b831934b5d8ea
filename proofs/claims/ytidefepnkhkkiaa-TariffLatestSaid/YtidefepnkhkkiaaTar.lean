/- Tariffs: what they are, and the check of their number. -/
import Derived.Test.YtidefepnkhkkiaaClock
import Derived.Test.YtidefepnkhkkiaaLet
namespace Go.Proofs.Ytidefepnkhkkiaa
set_option linter.unusedSimpArgs false
set_option linter.unusedVariables false
open Go.RowKit

structure RT where
  lift : Int
  points : Int
  extra : Int
  sp : Sl
  peak : List Hrs
abbrev RT.val (r : RT) : Value := .agg #[.int .i64 r.lift, .int .i64 r.points, .int .i64 r.extra, .slice r.sp.a r.sp.n r.sp.c]
def RT.enc (r : RT) : List Value := [.int .i64 r.lift, .int .i64 r.points, .int .i64 r.extra, .slice r.sp.a r.sp.n r.sp.c]
def RT.at_ (w : World) (r : RT) : Prop := Rd w Hrs.enc r.sp r.peak
theorem RT.at_.toW {w w' : World} {r : RT} (h : r.at_ w) (hb : Below w.heap.size w w') : r.at_ w' := Rd.toW h hb
structure TF where
  from_ : Int
  sr : Sl
  rates : List RT
abbrev TF.val (r : TF) : Value := .agg #[.int .i64 r.from_, .slice r.sr.a r.sr.n r.sr.c]
def TF.enc (r : TF) : List Value := [.int .i64 r.from_, .slice r.sr.a r.sr.n r.sr.c]
structure TF.at_ (w : World) (r : TF) : Prop where
  rd : Rd w RT.enc r.sr r.rates
  all : ∀ x ∈ r.rates, x.at_ w
theorem TF.at_.toW {w w' : World} {r : TF} (h : r.at_ w) (hb : Below w.heap.size w w') : r.at_ w' := ⟨h.rd.toW hb, fun x hx => (h.all x hx).toW hb⟩
/-- A list of tariffs. -/
structure TFs (w : World) (s : Sl) (xs : List TF) : Prop where
  rd : Rd w TF.enc s xs
  all : ∀ x ∈ xs, x.at_ w
theorem TFs.toW {w w' : World} {s : Sl} {xs : List TF} (h : TFs w s xs) (hb : Below w.heap.size w w') : TFs w' s xs := ⟨h.rd.toW hb, fun x hx => (h.all x hx).toW hb⟩
structure RD where
  gate : Int
  seq : Int
  serial : Int
  counter : Int
  product : Int
  lift : Int
  at_ : Int
abbrev RD.val (r : RD) : Value := .agg #[.int .i64 r.gate, .int .i64 r.seq, .int .i64 r.serial, .int .i64 r.counter, .int .i64 r.product, .int .i64 r.lift, .int .i64 r.at_]
def RD.enc (r : RD) : List Value := [.int .i64 r.gate, .int .i64 r.seq, .int .i64 r.serial, .int .i64 r.counter, .int .i64 r.product, .int .i64 r.lift, .int .i64 r.at_]

theorem Rd.rt {w : World} {s : Sl} {xs : List RT} (h : Rd w RT.enc s xs) {k : Nat} (hk : k < s.n) : ∃ b off x, s.a = some ⟨b, off, none⟩ ∧ b < w.heap.size ∧ Hid (xs.drop k = x :: xs.drop (k + 1)) ∧ Hid (xs[k]? = some x) ∧
    w.cell? ⟨b, off + k * 4, none⟩ = some (.int .i64 x.lift) ∧ w.cell? ⟨b, off + k * 4 + 1, none⟩ = some (.int .i64 x.points) ∧ w.cell? ⟨b, off + k * 4 + 2, none⟩ = some (.int .i64 x.extra) ∧ w.cell? ⟨b, off + k * 4 + 3, none⟩ = some (.slice x.sp.a x.sp.n x.sp.c) := by
  obtain ⟨b, off, x, e, hb, h1, h2, hc⟩ := h.step hk
  exact ⟨b, off, x, e, hb, h1, h2, hc 0 _ rfl, hc 1 _ rfl, hc 2 _ rfl, hc 3 _ rfl⟩
theorem Rd.tf {w : World} {s : Sl} {xs : List TF} (h : Rd w TF.enc s xs) {k : Nat} (hk : k < s.n) : ∃ b off x, s.a = some ⟨b, off, none⟩ ∧ b < w.heap.size ∧ Hid (xs.drop k = x :: xs.drop (k + 1)) ∧ Hid (xs[k]? = some x) ∧
    w.cell? ⟨b, off + k * 2, none⟩ = some (.int .i64 x.from_) ∧ w.cell? ⟨b, off + k * 2 + 1, none⟩ = some (.slice x.sr.a x.sr.n x.sr.c) := by
  obtain ⟨b, off, x, e, hb, h1, h2, hc⟩ := h.step hk
  exact ⟨b, off, x, e, hb, h1, h2, hc 0 _ rfl, hc 1 _ rfl⟩

/-! few -/
def fewR : List RT → Bool
  | [] => true
  | r :: rs => if 30 < r.peak.length then false else fewR rs
def fewL : List TF → Bool
  | [] => true
  | x :: r => if 50 < x.rates.length then false else if fewR x.rates = false then false else fewL r
def fewF (l : List TF) : Bool := if 30 < l.length then false else fewL l
set_option maxRecDepth 100000 in
set_option maxHeartbeats 1600000 in
theorem law33_few (s : Sl) (xs : List TF) (w : World) (hs : TFs w s xs) : Calls Try.prog 11 #[s.val] w fun e w' => e = .returned (.bool (fewF xs)) ∧ w = w' := by
  obtain ⟨A, n, c⟩ := s
  have hmax : n ≤ 9223372036854775807 := hs.rd.bound
  have Hs := Lib.hid hs
  clear hs
  have Hn : Hid (xs.length = n) := Hs.out.rd.len
  simp only [Sl.val]
  by_cases hn : 30 < n
  · (go_enter Try.func11, Try.ntmps11; try dsimp only [List.append])
    go_wp2
    go_ret
    exact ⟨ret_bool (by rw [fewF, Hn.out, if_pos hn]), rfl⟩
  · (go_enter Try.func11, Try.ntmps11; try dsimp only [List.append])
    go_wp2
    go_loop [3] (fun i => ∃ k : Nat, k ≤ n ∧ i = .int .i64 k ∧ Hid (fewL (xs.drop k) = fewF xs)) (fun i => n - (intOf i).toNat)
    case atStart => exact ⟨0, Nat.zero_le _, rfl, by show fewL xs = fewF xs; rw [fewF, Hn.out, if_neg hn]⟩
    case round =>
      obtain ⟨k, hk, rfl, Hl⟩ := hrel
      by_cases hlt : k < n
      · obtain ⟨b, off, x, rfl, hbw, Hx, Hx0, hc0, hc1⟩ := Hs.out.rd.tf hlt
        have Hr := Lib.hid (Hs.out.all x (List.mem_of_getElem? Hx0.out))
        obtain ⟨from_, ⟨B, m, cm⟩, rs⟩ := x
        have hm : m ≤ 9223372036854775807 := Hr.out.rd.bound
        have Hm : Hid (rs.length = m) := Hr.out.rd.len
        dsimp only at hc0 hc1
        clear hc0
        by_cases hm50 : 50 < m
        · go_wp2
          go_ret
          exact ⟨ret_bool (by go_light; have h := Hl.out; rw [Hx.out] at h; have h2 := Hm.out; rw [← h]; show false = (if 50 < rs.length then false else _); rw [h2, if_pos hm50]), rfl⟩
        · go_wp2
          go_loop [4] (fun j => ∃ q : Nat, q ≤ m ∧ j = .int .i64 q ∧ Hid (fewR (rs.drop q) = fewR rs)) (fun j => m - (intOf j).toNat)
          case atStart => exact ⟨0, Nat.zero_le _, rfl, rfl⟩
          case round =>
            obtain ⟨q, hq, rfl, Hq⟩ := hrel
            by_cases hlq : q < m
            · obtain ⟨b2, off2, y, rfl, hbw2, Hy, Hy0, -, -, -, hd3⟩ := Hr.out.rd.rt hlq
              obtain ⟨yl, yp, ye, ⟨yA, yn, yc⟩, yh⟩ := y
              dsimp only at hd3
              have Hy2 : Hid (yh.length = yn) := (Hr.out.all _ (List.mem_of_getElem? Hy0.out)).len
              by_cases hy30 : 30 < yn
              · go_wp2
                go_ret
                exact ⟨ret_bool (by
                  go_light
                  have h := Hl.out; rw [Hx.out] at h
                  have h2 : fewR rs = false := by rw [← Hq.out, Hy.out]; show (if 30 < yh.length then false else _) = false; rw [Hy2.out, if_pos hy30]
                  rw [← h]; show false = (if 50 < rs.length then false else if fewR rs = false then false else _); rw [Hm.out, if_neg hm50, if_pos h2]), rfl⟩
              · go_wp2
                go_round
                case rel => exact ⟨q + 1, by omega, by go_num, Lib.hid (by go_light; rw [← Hq.out, Hy.out]; show _ = (if 30 < yh.length then false else _); rw [Hy2.out, if_neg hy30])⟩
                case measure => simp [intOf]; omega
            · have Hf : Hid (fewR rs = true) := by show fewR rs = true; rw [← Hq.out, Hr.out.rd.done_ hlq]; rfl
              go_wp2
              go_round
              case rel => exact ⟨k + 1, by omega, by go_num, Lib.hid (by go_light; have h := Hl.out; rw [Hx.out] at h; rw [← h]; show _ = (if 50 < rs.length then false else if fewR rs = false then false else _); rw [Hm.out, if_neg hm50, if_neg (by rw [Hf.out]; simp)])⟩
              case measure => simp [intOf]; omega
      · go_wp2
        go_ret
        exact ⟨ret_bool (by rw [← Hl.out, Hs.out.rd.done_ hlt]; rfl), rfl⟩
end Go.Proofs.Ytidefepnkhkkiaa
