/- PrioAges: the statement, out of its walk. -/
import Derived.Test.YthnfheohfnhcpaaPrz
import Derived.Test.YthnfheohfnhcpaaFc2
import Derived.Test.YthnfheohfnhcpaaRows
import Derived.Conc.HoldsTime
import Derived.ProofKit
namespace Go.Proofs.Ythnfheohfnhcpaa
open Go.ChangeShapes Go.WideShapes Go.ChangeAt Go.RowKit Go.Conc Go.ConcM

theorem own_knob : ownKnob Try.prog.godebug = none := by kernel_rfl
theorem shut_true {H : Type} {enc : TypeId × Value → H} {W : World} {base : Nat} {sp : Nat → Bool} {held : Bool} (b : Bool) : DataW.Trod enc Try.prog W base sp held 4 (.bool b) (.lit (.bool b)) [] := ⟨1, by simp [DataW.trod, Value.cells, Try.underlying4]⟩
theorem below_chg {W w : World} (h : Y.Chg (fun _ => False) W w) : Below W.heap.size W { w with os := W.os } := ⟨rfl, h.tape, h.output, h.size, fun k hk => h.keep k hk (fun x => x)⟩
theorem later_chg {W w : World} (h : Y.Chg (fun _ => False) W w) : OsLater W.os w.os := by
  rw [h.os]; exact ⟨0, by cases W.os; rfl⟩

set_option maxRecDepth 100000 in
theorem prioAges_lifted (os : Os) (started : os.Started) (H : Type) (enc : TypeId × Value → H) (F : Stop.Interp) :
    ReturnsInLeavingWide Rows.prioAgesRow.assume Try.checked os 5 .any (Rows.prioAgesSpec.pre6 enc Try.prog Try.f5 Rows.prioAgesRow.domain false) ((OpenSpec.ofChange Rows.prioAgesSpec).postWith enc Try.prog Try.f5 F (outsideKept [.timePasses]) false true false) := by
  refine returnsInLeavingWide_of_change_time (C := Try.checked) own_knob started Try.func5
    (ChangeSpec.witness6c (enc := enc) (C := Try.checked) ⟨#[], #[.int .i64 0], []⟩ 8 (by kernel_rfl) (by kernel_rfl) (by kernel_rfl) (by kernel_rfl)) ?_
  intro W base args ds gs before hval0 hW _ _ _
  have hval : ∀ (j : Nat) t v, Try.f5.params[j]? = some t → args[j]? = some v → Value.okWide Try.prog W .any base t v := hval0
  have hW' := hW
  obtain ⟨p, q, hA0, hV, rfl, _, _⟩ := hW
  have hA : DataW.TrodAll enc Try.prog W 0 (fun _ => true) true Try.f5.params.toList args.toList ds p := hA0
  rw [Try.params5] at hA hval
  obtain ⟨v0, d0, rfl, rfl, h0⟩ := trodAll_one hA
  obtain ⟨rfl, rfl⟩ := trodVars_none hV
  obtain ⟨x, rfl, rfl, rfl, wx⟩ := open_int Try.underlying3 (hval 0 3 v0 rfl rfl) h0
  clear hA0 hval0
  simp only [List.append_nil] at hW'
  obtain ⟨M, last, o, w', t', r1, r2, r3, v, e, hp, g1, g2, g3, g4⟩ := Y.prioAges_run (w := W) (d := x) (by have h := wx; simp only [Lit.wf, Bool.and_eq_true, decide_eq_true_eq] at h; exact h.1) (by have h := wx; simp only [Lit.wf, Bool.and_eq_true, decide_eq_true_eq] at h; exact h.2)
  refine ⟨M, last, o, w', t', r1, r2, r3, v, e, ⟨?_, later_chg hp.2⟩, g1, g2, g3, g4⟩
  obtain ⟨rfl, hk⟩ := hp
  exact ⟨_, _, _, [], [], [], hW', trodAll_mk1 (shut_true _), trodAll_mk1 (shut_int Try.underlying3 wx), rfl, (below_chg hk).frame _, fun h => by cases h⟩

theorem and_true_of {a b : Bool} (h : a = true) (k : b = true) : (a && b) = true := by rw [h, k]; rfl
set_option maxRecDepth 100000 in
theorem prioAgesClosed : joinedFacts Try.prog 5 Try.f5 Rows.prioAgesSpec Rows.prioAgesRow = true := (and_true_of (and_true_of (and_true_of (and_true_of (and_true_of (and_true_of (and_true_of (and_true_of (and_true_of (and_true_of (and_true_of (and_true_of (and_true_of (and_true_of (and_true_of (and_true_of (and_true_of (and_true_of (and_true_of (and_true_of (and_true_of (and_true_of (and_true_of (and_true_of (and_true_of (and_true_of (and_true_of (and_true_of (and_true_of (and_true_of (and_true_of prioAgesFact0 prioAgesFact1) prioAgesFact2) prioAgesFact3) prioAgesFact4) prioAgesFact5) prioAgesFact6) prioAgesFact7) prioAgesFact8) prioAgesFact9) prioAgesFact10) prioAgesFact11) prioAgesFact12) prioAgesFact13) prioAgesFact14) prioAgesFact15) prioAgesFact16) prioAgesFact17) prioAgesFact18) prioAgesFact19) prioAgesFact20) prioAgesFact21) prioAgesFact22) prioAgesFact23) prioAgesFact24) prioAgesFact25) prioAgesFact26) prioAgesFact27) prioAgesFact28) prioAgesFact29) prioAgesFact30) prioAgesFact31)

theorem prioAges_holds : Rows.PrioAgesSaid :=
  OpenClaim.holds_of_wide_leaving_time 5 Try.f5 rfl rfl rfl rfl rfl rfl rfl ⟨rfl, rfl, rfl, rfl, rfl⟩ rfl rfl rfl rfl rfl (by kernel_rfl) Try.func5 prioAgesClosed
    (of_decide_eq_true (by kernel_rfl)) (by unfold Func.isWrapper; first | (rw [if_pos (by decide +kernel)]; kernel_rfl) | (rw [if_neg (by decide +kernel)]; exact ⟨rfl, rfl⟩))
    (fun os started H enc _ F => prioAges_lifted os started H enc F)

#print axioms prioAges_holds
end Go.Proofs.Ythnfheohfnhcpaa
