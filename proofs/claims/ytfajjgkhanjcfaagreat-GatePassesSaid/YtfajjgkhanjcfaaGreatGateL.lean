/- Gates: what Pass answers, in one; plain facts: which lists are small, what the gate says behind a ride. -/
import Derived.Test.YtfajjgkhanjcfaaGreatPassOk
import Derived.Test.YtfajjgkhanjcfaaGreatUseLaw
namespace Go.Proofs.YtfajjgkhanjcfaaGreat
set_option linter.unusedSimpArgs false
set_option linter.unusedVariables false
open Go.RowKit
theorem inc_len : ∀ {l : List Int} {y : Int}, y ≤ 8 → incL (some y) l = true → (l.length : Int) ≤ 8 - y
  | [], y, h, _ => by simp; omega
  | x :: r, y, h, hi => by
    unfold incL at hi
    split at hi
    · cases hi
    · rename_i hx
      have := inc_len (l := r) (y := x) (by omega) hi
      simp only [List.length_cons]
      omega
theorem inc_len0 {l : List Int} (h : incL none l = true) : l.length ≤ 8 := by
  cases l with
  | nil => simp
  | cons x r =>
    unfold incL at h
    split at h
    · cases h
    · rename_i hx
      have := inc_len (l := r) (y := x) (by omega) h
      simp only [List.length_cons]
      omega
theorem small_right {es : List PD} {w : World} (h : right22 es = 0) (he : ∀ p ∈ es, p.at_ w) : smallP es := fun p hp => by
  obtain ⟨k, hk⟩ := List.mem_iff_getElem?.1 hp
  have h1 := right22_zero h k p hk
  unfold oneF at h1
  split at h1
  · omega
  split at h1
  · omega
  split at h1
  · omega
  split at h1
  · omega
  rename_i ha
  split at h1
  · rename_i hi
    have h2 := inc_len0 hi
    have h3 := (he p hp).ops.len; have h4 := (he p hp).hours.len
    simp [argBad] at ha
    have h5 : hoursF p.hours = true := ha.2.1
    simp [hoursF] at h5
    exact ⟨by omega, by omega⟩
  · omega
theorem tagged_check (k : Int) (m : MV) : checkF k (m.tagged (signF k m)) = (mRight m == 0) := by
  show ((mRight m == 0) && (signF k m == signF k m)) = _
  simp
def passE (g : GV) (es : List PD) (m : MV) (t : Int) : Int :=
  if decideF g es m t ≠ 0 then 13 else if 1000000 ≤ g.seq then 9 else match findF m.product es with
    | none => 0
    | some p => useE p m g.operator g.lift t
theorem pass_zero {g : GV} {es : List PD} {m : MV} {t : Int} (h : passE g es m t = 0) : decideF g es m t = 0 ∧ g.seq < 1000000 ∧ ∃ p, findF m.product es = some p ∧ useE p m g.operator g.lift t = 0 := by
  unfold passE at h
  split at h
  · omega
  rename_i h1
  have h1' : decideF g es m t = 0 := Decidable.not_not.1 h1
  split at h
  · omega
  rename_i h2
  obtain ⟨p, hp, -⟩ := decide_open h1'
  rw [hp] at h
  exact ⟨h1', by omega, p, hp, h⟩
/-- Behind a ride the gate does not open again at once. -/
theorem decide_after {g g' : GV} {es : List PD} {m : MV} {t T : Int} {p : PD} (hf : findF m.product es = some p) (hl : g'.lift = g.lift) : decideF g' es ((useM p m g.lift t).tagged T) t ≠ 0 := by
  intro h
  obtain ⟨q, hq, hw, -⟩ := decide_open h
  obtain ⟨-, -, -, -, -, -, w7⟩ := why_facts hw
  have : t + 300 ≤ t := w7 hl
  omega
/-- What a ride leaves is authentic. -/
theorem check_after {g : GV} {es : List PD} {m : MV} {t : Int} {p : PD} (h22 : right22 es = 0) (hd : decideF g es m t = 0) (hf : findF m.product es = some p) (hu : useE p m g.operator g.lift t = 0) : checkF g.key ((useM p m g.lift t).tagged (signF g.key (useM p m g.lift t))) = true := by
  obtain ⟨-, -, -, hm0, -⟩ := decide_open hd
  rw [tagged_check, right_use hm0 (def_in h22 (findF_mem hf).1 hm0) hu]
  rfl
section
variable {g : GV} {s : Sl} {es : List PD} {m : MV} {t : Int} {w : World}
theorem gate_Pass_no (E : Int) (hg : g.at_ w) (hh0 : 0 ≤ g.heard) (hh1 : g.heard ≤ 20000000) (hs : Rd w PD.enc s es) (he : ∀ p ∈ es, p.at_ w) (h22 : right22 es = 0) (hE : passE g es m t = E) (h0 : E ≠ 0) :
    Calls Tryz.prog 6 #[g.val, s.val, m.val, .int .i64 t] w (Gives (passNo E) w) := by
  have hsm := small_right h22 he
  unfold passE at hE
  split at hE
  · rename_i h1
    subst hE
    exact gate_Pass_lock g s es m t w hg hh0 hh1 hs he hsm h22 h1
  · rename_i h1
    have h1' : decideF g es m t = 0 := Decidable.not_not.1 h1
    split at hE
    · rename_i h2
      subst hE
      exact gate_Pass_full g s es m t w hg hh0 hh1 hs he hsm h22 h1' h2
    · rename_i h2
      obtain ⟨p, hp, -⟩ := decide_open h1'
      rw [hp] at hE
      exact gate_Pass_over g s es m t w hg hh0 hh1 hs he hsm h22 h1' (by omega) p hp E hE h0
theorem gate_Pass_yes (p : PD) (hg : g.at_ w) (hh0 : 0 ≤ g.heard) (hh1 : g.heard ≤ 20000000) (hs : Rd w PD.enc s es) (he : ∀ p ∈ es, p.at_ w) (h22 : right22 es = 0) (hE : passE g es m t = 0) (hf : findF m.product es = some p) (hq : 0 ≤ g.seq) (hgl : g.sl.n ≤ 1000) :
    Calls Tryz.prog 6 #[g.val, s.val, m.val, .int .i64 t] w (PassOk g p m t w) := by
  obtain ⟨h1, h2, q, hq2, hu⟩ := pass_zero hE
  obtain rfl : q = p := Option.some.inj (hq2.symm.trans hf)
  exact gate_Pass_ok g s es m t w hg hh0 hh1 hs he (small_right h22 he) h22 h1 hq h2 q hf hu hgl (use_facts hu).2.2.2
end
end Go.Proofs.YtfajjgkhanjcfaaGreat
