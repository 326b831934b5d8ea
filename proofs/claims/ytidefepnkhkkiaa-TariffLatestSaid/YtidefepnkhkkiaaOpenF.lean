/- How tariffs and rides read. -/
import Derived.Test.YtidefepnkhkkiaaOpen
import Derived.Test.YtidefepnkhkkiaaTarAlive
namespace Go.Proofs.Ytidefepnkhkkiaa
set_option linter.unusedSimpArgs false
set_option linter.unusedVariables false
open Go.RowKit Go.ChangeShapes Go.WideShapes Go.ChangeAt Go.Deep
abbrev okI (_ : World) (n : Int) : Prop := (Lit.int .i64 n).wf = true
theorem o_int : OpensTo Try.prog 3 (fun n : Int => [.int .i64 n]) okI := opens_int Try.underlying3
theorem C_int : Try.prog.cellsOf 3 = 1 := by kernel_rfl
theorem o_hrs : OpensTo Try.prog 53 Hrs.enc (fun _ _ => True) := fun enc w fuel cs x h => by
  obtain ⟨xs, n, _, _, hl, hxl, hf⟩ := DataW.trod_struct Try.underlying53 h
  have hl3 : cs.length = 3 := hl.trans (by kernel_rfl)
  obtain ⟨a, ea, wa⟩ := opens_field hf hxl 0 _ rfl o_int 1 C_int
  obtain ⟨b, eb, wb⟩ := opens_field hf hxl 1 _ rfl o_int 1 C_int
  obtain ⟨c, ec, wc⟩ := opens_field hf hxl 2 _ rfl o_int 1 C_int
  match cs, hl3 with
  | [c0, c1, c2], _ =>
    simp at ea eb ec
    subst ea eb ec
    exact ⟨⟨a, b, c⟩, rfl, trivial⟩
theorem o_hours : OpensTo Try.prog 41 (fun x : Sl × List Hrs => [.slice x.1.a x.1.n x.1.c]) (fun w x => Rd w Hrs.enc x.1 x.2 ∧ ∀ a ∈ x.2, True) :=
  opens_slice Try.underlying41 o_hrs 3 (by kernel_rfl) (by decide) (fun _ => rfl)
theorem o_rate : OpensTo Try.prog 43 RT.enc (fun w r => r.at_ w) := fun enc w fuel cs x h => by
  obtain ⟨xs, n, _, _, hl, hxl, hf⟩ := DataW.trod_struct Try.underlying43 h
  have hl4 : cs.length = 4 := hl.trans (by kernel_rfl)
  obtain ⟨a, ea, -⟩ := opens_field hf hxl 0 _ rfl o_int 1 C_int
  obtain ⟨b, eb, -⟩ := opens_field hf hxl 1 _ rfl o_int 1 C_int
  obtain ⟨c, ec, -⟩ := opens_field hf hxl 2 _ rfl o_int 1 C_int
  obtain ⟨⟨s, hs⟩, ed, wd⟩ := opens_field hf hxl 3 _ rfl o_hours 1 (by kernel_rfl)
  match cs, hl4 with
  | [c0, c1, c2, c3], _ =>
    simp at ea eb ec ed
    subst ea eb ec ed
    exact ⟨⟨a, b, c, s, hs⟩, rfl, wd.1⟩
theorem o_rates : OpensTo Try.prog 27 (fun x : Sl × List RT => [.slice x.1.a x.1.n x.1.c]) (fun w x => Rd w RT.enc x.1 x.2 ∧ ∀ a ∈ x.2, a.at_ w) :=
  opens_slice Try.underlying27 o_rate 4 (by kernel_rfl) (by decide) (fun _ => rfl)
theorem o_tariff : OpensTo Try.prog 29 TF.enc (fun w r => r.at_ w) := fun enc w fuel cs x h => by
  obtain ⟨xs, n, _, _, hl, hxl, hf⟩ := DataW.trod_struct Try.underlying29 h
  have hl2 : cs.length = 2 := hl.trans (by kernel_rfl)
  obtain ⟨a, ea, -⟩ := opens_field hf hxl 0 _ rfl o_int 1 C_int
  obtain ⟨⟨s, hs⟩, ed, wd⟩ := opens_field hf hxl 1 _ rfl o_rates 1 (by kernel_rfl)
  match cs, hl2 with
  | [c0, c1], _ =>
    simp at ea ed
    subst ea ed
    exact ⟨⟨a, s, hs⟩, rfl, wd.1, wd.2⟩
theorem o_tariffs : OpensTo Try.prog 22 (fun x : Sl × List TF => [.slice x.1.a x.1.n x.1.c]) (fun w x => Rd w TF.enc x.1 x.2 ∧ ∀ a ∈ x.2, a.at_ w) :=
  opens_slice Try.underlying22 o_tariff 2 (by kernel_rfl) (by decide) (fun _ => rfl)
def RD.wf (x : RD) : Prop := (Lit.int .i64 x.lift).wf = true ∧ (Lit.int .i64 x.at_).wf = true
theorem o_ride : OpensTo Try.prog 35 RD.enc (fun _ m => m.wf) := fun enc w fuel cs x h => by
  obtain ⟨xs, n, _, _, hl, hxl, hf⟩ := DataW.trod_struct Try.underlying35 h
  have hl7 : cs.length = 7 := hl.trans (by kernel_rfl)
  obtain ⟨a0, e0, w0⟩ := opens_field hf hxl 0 _ rfl o_int 1 C_int
  obtain ⟨a1, e1, w1⟩ := opens_field hf hxl 1 _ rfl o_int 1 C_int
  obtain ⟨a2, e2, w2⟩ := opens_field hf hxl 2 _ rfl o_int 1 C_int
  obtain ⟨a3, e3, w3⟩ := opens_field hf hxl 3 _ rfl o_int 1 C_int
  obtain ⟨a4, e4, w4⟩ := opens_field hf hxl 4 _ rfl o_int 1 C_int
  obtain ⟨a5, e5, w5⟩ := opens_field hf hxl 5 _ rfl o_int 1 C_int
  obtain ⟨a6, e6, w6⟩ := opens_field hf hxl 6 _ rfl o_int 1 C_int
  match cs, hl7 with
  | [c0, c1, c2, c3, c4, c5, c6], _ =>
    simp at e0 e1 e2 e3 e4 e5 e6
    subst e0 e1 e2 e3 e4 e5 e6
    exact ⟨⟨a0, a1, a2, a3, a4, a5, a6⟩, rfl, w5, w6⟩
theorem o_rides : OpensTo Try.prog 38 (fun x : Sl × List RD => [.slice x.1.a x.1.n x.1.c]) (fun w x => Rd w RD.enc x.1 x.2 ∧ ∀ a ∈ x.2, a.wf) :=
  opens_slice Try.underlying38 o_ride 7 (by kernel_rfl) (by decide) (fun _ => rfl)
end Go.Proofs.Ytidefepnkhkkiaa
