/- ClockOrder: the statement, out of its walk. -/
import Derived.Test.YthnfheohfnhcpaaCoz
import Derived.Test.YthnfheohfnhcpaaFc3
import Derived.Test.YthnfheohfnhcpaaRows
import Derived.Conc.HoldsTime
import Derived.Deep.SlicePairs
import Derived.WideKeyArgs
import Derived.ChangeOld
import Derived.ProofKit
namespace Go.Proofs.Ythnfheohfnhcpaa
open Go.ChangeShapes Go.WideShapes Go.ChangeAt Go.RowKit Go.Conc Go.ConcM

theorem own_knob : ownKnob Try.prog.godebug = none := by kernel_rfl
theorem shut_true {H : Type} {enc : TypeId × Value → H} {W : World} {base : Nat} {sp : Nat → Bool} {held : Bool} (b : Bool) : DataW.Trod enc Try.prog W base sp held 4 (.bool b) (.lit (.bool b)) [] := ⟨1, by simp [DataW.trod, Value.cells, Try.underlying4]⟩
theorem below_chg {W w : World} (h : Y.Chg (fun _ => False) W w) : Below W.heap.size W { w with os := W.os } := ⟨rfl, h.tape, h.output, h.size, fun k hk => h.keep k hk (fun x => x)⟩
theorem later_chg {W w : World} (h : Y.Chg (fun _ => False) W w) : OsLater W.os w.os := by
  rw [h.os]; exact ⟨0, by cases W.os; rfl⟩

section
variable {H : Type} {enc : TypeId × Value → H}
theorem int_of {W : World} {n : Nat} {t : TypeId} {v : Value} {d : DataW H} {ps : List MemPlace} (ht : Try.prog.underlying t = some (.int .i64)) (h : DataW.trod enc Try.prog W 0 (fun _ => true) true n t [v] = some (d, ps)) : ∃ x, v = .int .i64 x := by
  obtain ⟨x, hc, _⟩ := DataW.trod_int ht h
  simp at hc
  exact ⟨x, hc⟩
theorem in2_of {W : World} {v : Value} {d : DataW H} {ps : List MemPlace} (hv : ∃ p n c, v = .slice p n c) (h : DataW.Trod enc Try.prog W 0 (fun _ => true) true 43 v d ps) :
    ∃ p n cn A S, v = .slice p n cn ∧ Y.In2 W p n A S ∧ (p = none → n = 0 ∧ cn = 0) ∧ n ≤ cn ∧ cn ≤ maxLen := by
  obtain ⟨fuel, hf⟩ := h
  rcases Go.Deep.open_slice_pairs Try.underlying43 Try.underlying49 (by kernel_rfl) rfl rfl (by kernel_rfl) (by kernel_rfl) hf with ⟨hc, _⟩ | ⟨a, len, cap, m, n, V0, V1, D0, D1, P0, P1, hc, hb, hl, hm, hmm, _, hx⟩
  · obtain ⟨p, n, c, rfl⟩ := hv
    simp [Value.cells] at hc
    obtain ⟨rfl, rfl, rfl⟩ := hc
    exact ⟨none, 0, 0, fun _ => 0, fun _ => 0, rfl, ⟨fun i hi => by omega⟩, fun _ => ⟨rfl, rfl⟩, Nat.le_refl _, Nat.zero_le _⟩
  · obtain ⟨p, n', c, rfl⟩ := hv
    simp [Value.cells] at hc
    obtain ⟨rfl, rfl, rfl⟩ := hc
    have hlm : n' ≤ m := by rw [hmm]; split <;> omega
    have g0 : ∀ i, ∃ x, i < n' → V0 i = .int .i64 x := fun i => by
      by_cases hi : i < n'
      · obtain ⟨x, e⟩ := int_of Try.underlying2 (hx i (by omega)).2.2.1
        exact ⟨x, fun _ => e⟩
      · exact ⟨0, fun h => absurd h hi⟩
    have g1 : ∀ i, ∃ x, i < n' → V1 i = .int .i64 x := fun i => by
      by_cases hi : i < n'
      · obtain ⟨x, e⟩ := int_of Try.underlying3 (hx i (by omega)).2.2.2
        exact ⟨x, fun _ => e⟩
      · exact ⟨0, fun h => absurd h hi⟩
    refine ⟨some a, n', c, fun i => (g0 i).choose, fun i => (g1 i).choose, rfl, ⟨fun i hi => ⟨a, rfl, ?_, ?_, ?_⟩⟩, fun h => (by cases h), hl, hm⟩
    · exact (hx i (by omega)).1.trans (congrArg some ((g0 i).choose_spec hi))
    · rw [Go.Deep.add_add]; exact (hx i (by omega)).2.1.trans (congrArg some ((g1 i).choose_spec hi))
    · exact World.block_lt_of_cell? _ (a.add (i * 2)) (hx i (by omega)).1 |> fun h => by unfold Addr.add at h; split at h <;> exact h
theorem in1_of {W : World} {v : Value} {d : DataW H} {ps : List MemPlace} (hv : ∃ p n c, v = .slice p n c) (h : DataW.Trod enc Try.prog W 0 (fun _ => true) true 44 v d ps) :
    ∃ p n cn A, v = .slice p n cn ∧ Y.In1 W p n A ∧ (p = none → n = 0 ∧ cn = 0) ∧ n ≤ cn ∧ cn ≤ maxLen := by
  obtain ⟨fuel, hf⟩ := h
  rcases Go.Deep.open_slice1 Try.underlying44 (by kernel_rfl) hf with ⟨hc, _⟩ | ⟨a, len, cap, m, n, V0, D0, P0, hc, hb, hl, hm, hmm, _, hx⟩
  · obtain ⟨p, n, c, rfl⟩ := hv
    simp [Value.cells] at hc
    obtain ⟨rfl, rfl, rfl⟩ := hc
    exact ⟨none, 0, 0, fun _ => 0, rfl, ⟨fun i hi => by omega⟩, fun _ => ⟨rfl, rfl⟩, Nat.le_refl _, Nat.zero_le _⟩
  · obtain ⟨p, n', c, rfl⟩ := hv
    simp [Value.cells] at hc
    obtain ⟨rfl, rfl, rfl⟩ := hc
    have hlm : n' ≤ m := by rw [hmm]; split <;> omega
    have g0 : ∀ i, ∃ x, i < n' → V0 i = .int .i64 x := fun i => by
      by_cases hi : i < n'
      · obtain ⟨x, e⟩ := int_of Try.underlying2 (hx i (by omega)).2
        exact ⟨x, fun _ => e⟩
      · exact ⟨0, fun h => absurd h hi⟩
    refine ⟨some a, n', c, fun i => (g0 i).choose, rfl, ⟨fun i hi => ⟨a, rfl, ?_, ?_⟩⟩, fun h => (by cases h), hl, hm⟩
    · exact (hx i (by omega)).1.trans (congrArg some ((g0 i).choose_spec hi))
    · exact World.block_lt_of_cell? _ (a.add i) (hx i (by omega)).1 |> fun h => by unfold Addr.add at h; split at h <;> exact h
theorem stays_of {W w' : World} {t : TypeId} {v : Value} {d : DataW H} {ps : List MemPlace} (hr : Try.prog.readableRec t = true) (ht : t < Try.prog.types.size) (hb : Below W.heap.size W w') (h : DataW.Trod enc Try.prog W 0 (fun _ => true) true t v d ps) : DataW.Trod enc Try.prog w' 0 (fun b => decide (b < W.heap.size)) true t v d ps := by
  have hlt : ∀ p ∈ ps, p.block < W.heap.size := by
    obtain ⟨n, hn⟩ := h
    exact DataW.trod_lt n t _ _ hn
  exact Go.WideElems.Trod_stays (by kernel_rfl) hr ht h (fun p hp => hb.same (hlt p hp)) (fun p hp => decide_eq_true (hlt p hp))
end
set_option maxRecDepth 100000 in
theorem clockOrder_lifted (os : Os) (started : os.Started) (H : Type) (enc : TypeId × Value → H) (F : Stop.Interp) :
    ReturnsInLeavingWide Rows.clockOrderRow.assume Try.checked os 4 .any (Rows.clockOrderSpec.pre6 enc Try.prog Try.f4 Rows.clockOrderRow.domain false) ((OpenSpec.ofChange Rows.clockOrderSpec).postWith enc Try.prog Try.f4 F (outsideKept [.timePasses]) false true false) := by
  refine returnsInLeavingWide_of_change_time (C := Try.checked) own_knob started Try.func4
    (ChangeSpec.witness6c (enc := enc) (C := Try.checked) ⟨#[], #[.slice none 0 0, .slice none 0 0], []⟩ 8 (by kernel_rfl) (by kernel_rfl) (by kernel_rfl) (by kernel_rfl)) ?_
  intro W base args ds gs before hval0 hW _ _ _
  have hval : ∀ (j : Nat) t v, Try.f4.params[j]? = some t → args[j]? = some v → Value.okWide Try.prog W .any base t v := hval0
  have hW' := hW
  obtain ⟨p, q, hA0, hV, rfl, _, _⟩ := hW
  have hA : DataW.TrodAll enc Try.prog W 0 (fun _ => true) true Try.f4.params.toList args.toList ds p := hA0
  rw [Try.params4] at hA hval
  obtain ⟨v0, v1, d0, d1, p0, p1, rfl, rfl, rfl, h0, h1⟩ := trodAll_two hA
  obtain ⟨rfl, rfl⟩ := trodVars_none hV
  obtain ⟨p', n, cn, A, Sp, rfl, hl, hp, hn, hcn⟩ := in2_of (okWide_slice Try.underlying43 (hval 0 43 v0 rfl rfl)) h0
  obtain ⟨q', m, cm, St, rfl, hm, hq, hmm, hcm⟩ := in1_of (okWide_slice Try.underlying44 (hval 1 44 v1 rfl rfl)) h1
  clear hA0 hval0
  simp only [List.append_nil] at hW'
  obtain ⟨M, last, o, w', t', r1, r2, r3, v, e, hpst, g1, g2, g3, g4⟩ := Y.clockOrder_run hl hm hp hq hn hmm hcn hcm
  refine ⟨M, last, o, w', t', r1, r2, r3, v, e, ⟨?_, later_chg hpst.2⟩, g1, g2, g3, g4⟩
  obtain ⟨rfl, hk⟩ := hpst
  exact ⟨_, _, _, [], p0 ++ p1, [], hW', trodAll_mk1 (shut_true _), trodAll_mk2 (stays_of (by kernel_rfl) (of_decide_eq_true (by kernel_rfl)) (below_chg hk) h0) (stays_of (by kernel_rfl) (of_decide_eq_true (by kernel_rfl)) (below_chg hk) h1), rfl, (below_chg hk).frame _, fun h => by cases h⟩

theorem and_true_of {a b : Bool} (h : a = true) (k : b = true) : (a && b) = true := by rw [h, k]; rfl
set_option maxRecDepth 100000 in
theorem clockOrderClosed : joinedFacts Try.prog 4 Try.f4 Rows.clockOrderSpec Rows.clockOrderRow = true := (and_true_of (and_true_of (and_true_of (and_true_of (and_true_of (and_true_of (and_true_of (and_true_of (and_true_of (and_true_of (and_true_of (and_true_of (and_true_of (and_true_of (and_true_of (and_true_of (and_true_of (and_true_of (and_true_of (and_true_of (and_true_of (and_true_of (and_true_of (and_true_of (and_true_of (and_true_of (and_true_of (and_true_of (and_true_of (and_true_of (and_true_of clockOrderFact0 clockOrderFact1) clockOrderFact2) clockOrderFact3) clockOrderFact4) clockOrderFact5) clockOrderFact6) clockOrderFact7) clockOrderFact8) clockOrderFact9) clockOrderFact10) clockOrderFact11) clockOrderFact12) clockOrderFact13) clockOrderFact14) clockOrderFact15) clockOrderFact16) clockOrderFact17) clockOrderFact18) clockOrderFact19) clockOrderFact20) clockOrderFact21) clockOrderFact22) clockOrderFact23) clockOrderFact24) clockOrderFact25) clockOrderFact26) clockOrderFact27) clockOrderFact28) clockOrderFact29) clockOrderFact30) clockOrderFact31)

theorem clockOrder_holds : Rows.ClockOrderSaid :=
  OpenClaim.holds_of_wide_leaving_time 4 Try.f4 rfl rfl rfl rfl rfl rfl rfl ⟨rfl, rfl, rfl, rfl, rfl⟩ rfl rfl rfl rfl rfl (by kernel_rfl) Try.func4 clockOrderClosed
    (of_decide_eq_true (by kernel_rfl)) (by unfold Func.isWrapper; first | (rw [if_pos (by decide +kernel)]; kernel_rfl) | (rw [if_neg (by decide +kernel)]; exact ⟨rfl, rfl⟩))
    (fun os started H enc _ F => clockOrder_lifted os started H enc F)

#print axioms clockOrder_holds
end Go.Proofs.Ythnfheohfnhcpaa
