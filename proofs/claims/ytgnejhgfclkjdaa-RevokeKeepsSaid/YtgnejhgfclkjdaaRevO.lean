/- How lists of revoked media, revisions and steps read. -/
import Derived.Test.YtgnejhgfclkjdaaOpen
import Derived.Test.YtgnejhgfclkjdaaRevAl
namespace Go.Proofs.Ytgnejhgfclkjdaa
set_option linter.unusedSimpArgs false
set_option linter.unusedVariables false
open Go.RowKit Go.ChangeShapes Go.WideShapes Go.ChangeAt Go.Deep
abbrev okI (_ : World) (n : Int) : Prop := (Lit.int .i64 n).wf = true
theorem o_int : OpensTo Try.prog 3 encI okI := opens_int Try.underlying3
theorem C_int : Try.prog.cellsOf 3 = 1 := by kernel_rfl
theorem o_ints : OpensTo Try.prog 22 (fun x : Sl × List Int => [.slice x.1.a x.1.n x.1.c]) (fun w x => Rd w encI x.1 x.2 ∧ ∀ a ∈ x.2, okI w a) :=
  opens_slice Try.underlying22 o_int 1 C_int (by decide) (fun _ => rfl)
def RV.enc (r : RV) : List Value := [.int .i64 r.version, .slice r.sl.a r.sl.n r.sl.c]
def RV.ok (w : World) (r : RV) : Prop := Rd w encI r.sl r.list ∧ WfI r.list ∧ (Lit.int .i64 r.version).wf = true
set_option maxRecDepth 100000 in
theorem o_revoked : OpensTo Try.prog 24 RV.enc RV.ok := fun enc w fuel cs x h => by
  obtain ⟨xs, n, _, _, hl, hxl, hf⟩ := DataW.trod_struct Try.underlying24 h
  have hl2 : cs.length = 2 := hl.trans (by kernel_rfl)
  obtain ⟨a, ea, wa⟩ := opens_field hf hxl 0 _ rfl o_int 1 C_int
  obtain ⟨⟨s, l⟩, eb, wb⟩ := opens_field hf hxl 1 _ rfl o_ints 1 (by kernel_rfl)
  match cs, hl2 with
  | [c0, c1], _ =>
    simp at ea eb
    subst ea eb
    exact ⟨⟨a, s, l⟩, rfl, wb.1, wb.2, wa⟩
def DV.enc (r : DV) : List Value := [.int .i64 r.from_, .int .i64 r.till, .slice r.sa.a r.sa.n r.sa.c, .slice r.sd.a r.sd.n r.sd.c]
def DV.ok (w : World) (r : DV) : Prop := r.at_ w ∧ WfI r.add ∧ WfI r.drop
set_option maxRecDepth 100000 in
theorem o_revision : OpensTo Try.prog 36 DV.enc DV.ok := fun enc w fuel cs x h => by
  obtain ⟨xs, n, _, _, hl, hxl, hf⟩ := DataW.trod_struct Try.underlying36 h
  have hl4 : cs.length = 4 := hl.trans (by kernel_rfl)
  obtain ⟨a, ea, wa⟩ := opens_field hf hxl 0 _ rfl o_int 1 C_int
  obtain ⟨b, eb, wb⟩ := opens_field hf hxl 1 _ rfl o_int 1 C_int
  obtain ⟨⟨s, l⟩, ec, wc⟩ := opens_field hf hxl 2 _ rfl o_ints 1 (by kernel_rfl)
  obtain ⟨⟨t, m⟩, ed, wd⟩ := opens_field hf hxl 3 _ rfl o_ints 1 (by kernel_rfl)
  match cs, hl4 with
  | [c0, c1, c2, c3], _ =>
    simp at ea eb ec ed
    subst ea eb ec ed
    exact ⟨⟨a, b, s, t, l, m⟩, rfl, ⟨wc.1, wd.1⟩, wc.2, wd.2⟩
theorem few_is {b : Bool} (A : Option Addr) (n c : Nat) (w : World) (h : decide (n ≤ 250) = b) : Calls Try.prog 15 #[.slice A n c] w (Gives (.bool b) w) := h ▸ law27_few A n c w
/-- A call of Change: what it is given. -/
structure StV where
  sa : Sl
  sd : Sl
  add : List Int
  drop : List Int
def StV.enc (x : StV) : List Value := [.slice x.sa.a x.sa.n x.sa.c, .slice x.sd.a x.sd.n x.sd.c]
structure StV.ok (w : World) (x : StV) : Prop where
  add : Rd w encI x.sa x.add
  drop : Rd w encI x.sd x.drop
  wa : WfI x.add
  wd : WfI x.drop
set_option maxRecDepth 100000 in
theorem o_step : OpensTo Try.prog 44 StV.enc StV.ok := fun enc w fuel cs x h => by
  obtain ⟨xs, n, _, _, hl, hxl, hf⟩ := DataW.trod_struct Try.underlying44 h
  have hl2 : cs.length = 2 := hl.trans (by kernel_rfl)
  obtain ⟨⟨s, l⟩, ec, wc⟩ := opens_field hf hxl 0 _ rfl o_ints 1 (by kernel_rfl)
  obtain ⟨⟨t, m⟩, ed, wd⟩ := opens_field hf hxl 1 _ rfl o_ints 1 (by kernel_rfl)
  match cs, hl2 with
  | [c0, c1], _ =>
    simp at ec ed
    subst ec ed
    exact ⟨⟨s, t, l, m⟩, rfl, wc.1, wd.1, wc.2, wd.2⟩
theorem o_steps : OpensTo Try.prog 42 (fun x : Sl × List StV => [.slice x.1.a x.1.n x.1.c]) (fun w x => Rd w StV.enc x.1 x.2 ∧ ∀ a ∈ x.2, StV.ok w a) :=
  opens_slice Try.underlying42 o_step 2 (by kernel_rfl) (by decide) (fun _ => rfl)
theorem Rd.st {w : World} {s : Sl} {xs : List StV} (h : Rd w StV.enc s xs) {k : Nat} (hk : k < s.n) : ∃ b off x, s.a = some ⟨b, off, none⟩ ∧ b < w.heap.size ∧ Hid (xs[k]? = some x) ∧
    w.cell? ⟨b, off + k * 2, none⟩ = some (.slice x.sa.a x.sa.n x.sa.c) ∧ w.cell? ⟨b, off + k * 2 + 1, none⟩ = some (.slice x.sd.a x.sd.n x.sd.c) := by
  obtain ⟨b, off, x, e, hb, h1, h2, hc⟩ := h.step hk
  exact ⟨b, off, x, e, hb, h2, by have := hc 0 _ rfl; rw [show off + (k * (StV.enc x).length + 0) = off + k * 2 from by simp [StV.enc]] at this; exact this, by have := hc 1 _ rfl; rw [show off + (k * (StV.enc x).length + 1) = off + k * 2 + 1 from by simp [StV.enc]; omega] at this; exact this⟩
/-- A list keeps reading where a block that it does not lie in is written. -/
theorem Rd.put_ne {α : Type} {w : World} {enc : α → List Value} {s : Sl} {xs : List α} (h : Rd w enc s xs) {B : Nat} {o : Obj} (hB : B < w.heap.size) (hne : 0 < s.n → ∀ a, s.a = some a → a.block ≠ B) : Rd (Put w B o) enc s xs :=
  ⟨h.len, h.cap, h.max, fun hn => by
    obtain ⟨b, off, e, hlt, hc⟩ := h.cells hn
    have h1 : b ≠ B := hne hn _ e
    refine ⟨b, off, e, by rw [size_put]; exact hlt, fun k x hx j u hu => ?_⟩
    rw [← hc k x hx j u hu]
    exact World.cell?_of_block (a := ⟨b, _, none⟩) (by rw [put_block_if _ _ _ _ hB, if_neg h1])⟩
theorem rightB_zero {r : RV} (h : rightB r = true) : rightL r.version r.list = 0 := by
  have h2 : (right27 r == 0) = true := (Bool.and_eq_true _ _ ▸ h).2
  have h3 : right27 r = 0 := by simpa using h2
  exact h3
end Go.Proofs.Ytgnejhgfclkjdaa
