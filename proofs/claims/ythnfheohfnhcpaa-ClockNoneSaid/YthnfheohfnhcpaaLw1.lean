/- ClockNone: the statement, out of its walk. -/
import Derived.Test.YthnfheohfnhcpaaCln2
import Derived.Test.YthnfheohfnhcpaaFc1
import Derived.Test.YthnfheohfnhcpaaRows
import Derived.Conc.HoldsTime
import Derived.ProofKit
namespace Go.Proofs.Ythnfheohfnhcpaa
open Go.ChangeShapes Go.WideShapes Go.ChangeAt Go.RowKit Go.Conc Go.ConcM

theorem own_knob : ownKnob Try.prog.godebug = none := by kernel_rfl
theorem shut_true {H : Type} {enc : TypeId × Value → H} {W : World} {base : Nat} {sp : Nat → Bool} {held : Bool} (b : Bool) : DataW.Trod enc Try.prog W base sp held 4 (.bool b) (.lit (.bool b)) [] := ⟨1, by simp [DataW.trod, Value.cells, Try.underlying4]⟩
theorem below_chg {W w : World} (h : Y.Chg (fun _ => False) W w) : Below W.heap.size W { w with os := W.os } := ⟨rfl, h.tape, h.output, h.size, fun k hk => h.keep k hk (fun x => x)⟩
theorem later_chg {W w : World} (h : Y.Chg (fun _ => False) W w) : OsLater W.os w.os := by
  rw [h.os]; exact ⟨0, by cases W.os; rfl⟩

set_option maxRecDepth 100000 in
theorem clockNone_lifted (os : Os) (started : os.Started) (H : Type) (enc : TypeId × Value → H) (F : Stop.Interp) :
    ReturnsInLeavingWide Rows.clockNoneRow.assume Try.checked os 3 .any (Rows.clockNoneSpec.pre6 enc Try.prog Try.f3 Rows.clockNoneRow.domain false) ((OpenSpec.ofChange Rows.clockNoneSpec).postWith enc Try.prog Try.f3 F (outsideKept [.timePasses]) false true false) := by
  refine returnsInLeavingWide_of_change_time (C := Try.checked) own_knob started Try.func3
    (ChangeSpec.witness6c (enc := enc) (C := Try.checked) ⟨#[], #[.int .i64 0, .int .i64 0, .int .i64 0], []⟩ 8 (by kernel_rfl) (by kernel_rfl) (by kernel_rfl) (by kernel_rfl)) ?_
  intro W base args ds gs before hval0 hW _ _ _
  have hval : ∀ (j : Nat) t v, Try.f3.params[j]? = some t → args[j]? = some v → Value.okWide Try.prog W .any base t v := hval0
  have hW' := hW
  obtain ⟨p, q, hA0, hV, rfl, _, _⟩ := hW
  have hA : DataW.TrodAll enc Try.prog W 0 (fun _ => true) true Try.f3.params.toList args.toList ds p := hA0
  rw [Try.params3] at hA hval
  obtain ⟨v0, v1, v2, d0, d1, d2, p0, p1, p2, rfl, rfl, rfl, h0, h1, h2⟩ := trodAll_three hA
  obtain ⟨rfl, rfl⟩ := trodVars_none hV
  obtain ⟨x, rfl, rfl, rfl, wx⟩ := open_int Try.underlying3 (hval 0 3 v0 rfl rfl) h0
  obtain ⟨r, rfl, rfl, rfl, wr⟩ := open_int Try.underlying2 (hval 1 2 v1 rfl rfl) h1
  obtain ⟨d, rfl, rfl, rfl, wd⟩ := open_int Try.underlying2 (hval 2 2 v2 rfl rfl) h2
  clear hA0 hval0
  simp only [List.append_nil] at hW'
  obtain ⟨M, last, o, w', t', r1, r2, r3, v, e, hp, g1, g2, g3, g4⟩ := Y.clockNone_run (W := W) (x := x) (r := r) (d := d)
  refine ⟨M, last, o, w', t', r1, r2, r3, v, e, ⟨?_, later_chg hp.2⟩, g1, g2, g3, g4⟩
  obtain ⟨rfl, hk⟩ := hp
  exact ⟨_, _, _, [], [], [], hW', trodAll_mk1 (shut_true _), trodAll_mk3 (shut_int Try.underlying3 wx) (shut_int Try.underlying2 wr) (shut_int Try.underlying2 wd), rfl, (below_chg hk).frame _, fun h => by cases h⟩

theorem and_true_of {a b : Bool} (h : a = true) (k : b = true) : (a && b) = true := by rw [h, k]; rfl
set_option maxRecDepth 100000 in
theorem clockNoneClosed : joinedFacts Try.prog 3 Try.f3 Rows.clockNoneSpec Rows.clockNoneRow = true := (and_true_of (and_true_of (and_true_of (and_true_of (and_true_of (and_true_of (and_true_of (and_true_of (and_true_of (and_true_of (and_true_of (and_true_of (and_true_of (and_true_of (and_true_of (and_true_of (and_true_of (and_true_of (and_true_of (and_true_of (and_true_of (and_true_of (and_true_of (and_true_of (and_true_of (and_true_of (and_true_of (and_true_of (and_true_of (and_true_of (and_true_of clockNoneFact0 clockNoneFact1) clockNoneFact2) clockNoneFact3) clockNoneFact4) clockNoneFact5) clockNoneFact6) clockNoneFact7) clockNoneFact8) clockNoneFact9) clockNoneFact10) clockNoneFact11) clockNoneFact12) clockNoneFact13) clockNoneFact14) clockNoneFact15) clockNoneFact16) clockNoneFact17) clockNoneFact18) clockNoneFact19) clockNoneFact20) clockNoneFact21) clockNoneFact22) clockNoneFact23) clockNoneFact24) clockNoneFact25) clockNoneFact26) clockNoneFact27) clockNoneFact28) clockNoneFact29) clockNoneFact30) clockNoneFact31)
theorem clockNone_holds : Rows.ClockNoneSaid :=
  OpenClaim.holds_of_wide_leaving_time 3 Try.f3 rfl rfl rfl rfl rfl rfl rfl ⟨rfl, rfl, rfl, rfl, rfl⟩ rfl rfl rfl rfl rfl (by kernel_rfl) Try.func3 clockNoneClosed
    (of_decide_eq_true (by kernel_rfl)) (by unfold Func.isWrapper; first | (rw [if_pos (by decide +kernel)]; kernel_rfl) | (rw [if_neg (by decide +kernel)]; exact ⟨rfl, rfl⟩))
    (fun os started H enc _ F => clockNone_lifted os started H enc F)

#print axioms clockNone_holds
end Go.Proofs.Ythnfheohfnhcpaa
