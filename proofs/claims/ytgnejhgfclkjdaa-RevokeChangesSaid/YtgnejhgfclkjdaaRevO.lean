/- How lists of revoked media, revisions and steps read. -/
import Derived.Test.YtgnejhgfclkjdaaOpen
import Derived.Test.YtgnejhgfclkjdaaRevAl
namespace Go.Proofs.Ytgnejhgfclkjdaa
set_option linter.unusedSimpArgs false
set_option linter.unusedVariables false
open Go.RowKit Go.ChangeShapes Go.WideShapes Go.ChangeAt Go.Deep
abbrev okI (_ : World) (n : Int) : Prop := (Lit.int .i64 n).wf = true
theorem o_int : OpensTo Try.prog 3 encI okI := opens_int Try.underlying3
theorem C_int : Try.prog.cellsOf 3 = 1 := by kernel_rfl
theorem o_ints : OpensTo Try.prog 22 (fun x : Sl × List Int => [.slice x.1.a x.1.n x.1.c]) (fun w x => Rd w encI x.1 x.2 ∧ ∀ a ∈ x.2, okI w a) :=
  opens_slice Try.underlying22 o_int 1 C_int (by decide) (fun _ => rfl)
def RV.enc (r : RV) : List Value := [.int .i64 r.version, .slice r.sl.a r.sl.n r.sl.c]
def RV.ok (w : World) (r : RV) : Prop := Rd w encI r.sl r.list ∧ WfI r.list ∧ (Lit.int .i64 r.version).wf = true
set_option maxRecDepth 100000 in
theorem o_revoked : OpensTo Try.prog 24 RV.enc RV.ok := fun enc w fuel cs x h => by
  obtain ⟨xs, n, _, _, hl, hxl, hf⟩ := DataW.trod_struct Try.underlying24 h
  have hl2 : cs.length = 2 := hl.trans (by kernel_rfl)
  obtain ⟨a, ea, wa⟩ := opens_field hf hxl 0 _ rfl o_int 1 C_int
  obtain ⟨⟨s, l⟩, eb, wb⟩ := opens_field hf hxl 1 _ rfl o_ints 1 (by kernel_rfl)
  match cs, hl2 with
  | [c0, c1], _ =>
    simp at ea eb
    subst ea eb
    exact ⟨⟨a, s, l⟩, rfl, wb.1, wb.2, wa⟩
def DV.enc (r : DV) : List Value := [.int .i64 r.from_, .int .i64 r.till, .slice r.sa.a r.sa.n r.sa.c, .slice r.sd.a r.sd.n r.sd.c]
def DV.ok (w : World) (r : DV) : Prop := r.at_ w ∧ WfI r.add ∧ WfI r.drop
set_option maxRecDepth 100000 in
theorem o_revision : OpensTo Try.prog 36 DV.enc DV.ok := fun enc w fuel cs x h => by
  obtain ⟨xs, n, _, _, hl, hxl, hf⟩ := DataW.trod_struct Try.underlying36 h
  have hl4 : cs.length = 4 := hl.trans (by kernel_rfl)
  obtain ⟨a, ea, wa⟩ := opens_field hf hxl 0 _ rfl o_int 1 C_int
  obtain ⟨b, eb, wb⟩ := opens_field hf hxl 1 _ rfl o_int 1 C_int
  obtain ⟨⟨s, l⟩, ec, wc⟩ := opens_field hf hxl 2 _ rfl o_ints 1 (by kernel_rfl)
  obtain ⟨⟨t, m⟩, ed, wd⟩ := opens_field hf hxl 3 _ rfl o_ints 1 (by kernel_rfl)
  match cs, hl4 with
  | [c0, c1, c2, c3], _ =>
    simp at ea eb ec ed
    subst ea eb ec ed
    exact ⟨⟨a, b, s, t, l, m⟩, rfl, ⟨wc.1, wd.1⟩, wc.2, wd.2⟩
theorem few_is {b : Bool} (A : Option Addr) (n c : Nat) (w : World) (h : decide (n ≤ 250) = b) : Calls Try.prog 15 #[.slice A n c] w (Gives (.bool b) w) := h ▸ law27_few A n c w
theorem rightB_zero {r : RV} (h : rightB r = true) : rightL r.version r.list = 0 := by
  have h2 : (right27 r == 0) = true := (Bool.and_eq_true _ _ ▸ h).2
  have h3 : right27 r = 0 := by simpa using h2
  exact h3
end Go.Proofs.Ytgnejhgfclkjdaa
