/- A region that draws the order of its operations, in the engine. -/
import Derived.Test.YthnfheohfnhcpaaRul
import Derived.Conc.CompanyDraw
set_option linter.unusedSimpArgs false
set_option linter.unusedVariables false
namespace Go.Proofs.Ythnfheohfnhcpaa.Y
open Go Go.Conc
section
variable {P : Program} {S : Type} {E : Eng P S} {fn : FuncId} {ops : Array Oper} {Q : S → Exit → Act → World → Prop} {md : Region.Mode} {C : World → Prop}

/-- Operation o comes up in this state, its guard saying yes. -/
def StepY (E : Eng P S) (Q : S → Exit → Act → World → Prop) (o : Oper) (K : S → Act → World → Prop) (σ : S) (a : Act) (w : World) : Prop :=
  (∃ v w' es, Ns (execOp a.eval o) ∧ (execOp a.eval o).runT P w #[] = (.ok (.value v) w', es) ∧ w'.drawn = w.drawn ∧ Ok (E.still σ) w w' es ∧ NoMark es ∧ K σ (a.put o.dst v) w') ∨
  (∃ w' es, Ns (execOp a.eval o) ∧ (execOp a.eval o).runT P w #[] = (.ok .skip w', es) ∧ w'.drawn = w.drawn ∧ Ok (E.still σ) w w' es ∧ NoMark es ∧ K σ (a.put o.dst undef) w') ∨
  (∃ f as R, (∀ u, (execOp a.eval o).run P u = .ok (.enter f as) u ∧ (execOp a.eval o).events P u #[] = #[]) ∧ CallR E f as σ w R ∧ ∀ σ' v w', R σ' v w' → K σ' (a.put o.dst v) w') ∨
  (∀ d, ∃ v w', (execOp a.eval o).run P (w.at d) = .ok (.value v) w' ∧ Ok (E.still σ) (w.at d) w' ((execOp a.eval o).events P (w.at d) #[]) ∧ NoMark ((execOp a.eval o).events P (w.at d) #[]) ∧ K σ (a.put o.dst v) w') ∨
  (∃ f as Post, (∀ u, (execOp a.eval o).run P u = .ok (.enter f as) u ∧ (execOp a.eval o).events P u #[] = #[]) ∧ CallY E f as Post σ w ∧ (∀ σ' ch w' a', Post σ' (.panicked ch) w' → a'.defers = a.defers → Q σ' (.panic ch) a' w') ∧ ∀ σ' v w', Post σ' (.returned v) w' → K σ' (a.put o.dst v) w')
theorem StepY.mono {o : Oper} {K K' : S → Act → World → Prop} {σ : S} {a : Act} {w : World} (h : StepY E Q o K σ a w) (hk : ∀ s u d x, K s (a.put u d) x → K' s (a.put u d) x) : StepY E Q o K' σ a w := by
  rcases h with ⟨v, w', es, h1, h2, h3, h4, h5, h6⟩ | ⟨w', es, h1, h2, h3, h4, h5, h6⟩ | ⟨f, as, R, h1, h2, h3⟩ | h | ⟨f, as, Post, h1, h2, h4, h3⟩
  · exact .inl ⟨v, w', es, h1, h2, h3, h4, h5, hk _ _ _ _ h6⟩
  · exact .inr (.inl ⟨w', es, h1, h2, h3, h4, h5, hk _ _ _ _ h6⟩)
  · exact .inr (.inr (.inl ⟨f, as, R, h1, h2, fun σ' v w' r => hk _ _ _ _ (h3 σ' v w' r)⟩))
  · exact .inr (.inr (.inr (.inl fun d => by obtain ⟨v, w', h1, h2, h3, h4⟩ := h d; exact ⟨v, w', h1, h2, h3, hk _ _ _ _ h4⟩)))
  · exact .inr (.inr (.inr (.inr ⟨f, as, Post, h1, h2, h4, fun σ' v w' r => hk _ _ _ _ (h3 σ' v w' r)⟩)))
/-- .. whatever its guard says. -/
def OpY (E : Eng P S) (Q : S → Exit → Act → World → Prop) (ops : Array Oper) (i : Nat) (K : S → Act → World → Prop) (σ : S) (a : Act) (w : World) : Prop :=
  match ops[i]? with
  | none => False
  | some o => if Region.wanted o (yielded ops a.tmps) then StepY E Q o K σ a w else K σ (a.put o.dst undef) w
theorem OpY.mono {i : Nat} {K K' : S → Act → World → Prop} {σ : S} {a : Act} {w : World} (hh : OpY E Q ops i K σ a w) (h : ∀ s a w, K s a w → K' s a w) : OpY E Q ops i K' σ a w := by
  unfold OpY at *
  split
  · simp_all
  · rename_i o ho
    simp only [ho] at hh
    split
    · rename_i hw; simp only [hw, if_true] at hh; exact hh.mono fun _ _ _ _ => h _ _ _
    · rename_i hw; simp only [hw] at hh; exact h _ _ _ hh

theorem enter_run {o : Oper} {f : FuncId} {as : Array Value} {R : S → Value → World → Prop} {i : Nat} {rest : List Nat} {σ : S} {a : Act} {w : World} (ho : ops[i]? = some o) (hw : Region.wanted o (yielded ops a.tmps) = true)
    (h1 : ∀ u, (execOp a.eval o).run P u = .ok (.enter f as) u ∧ (execOp a.eval o).events P u #[] = #[]) (hcall : CallR E f as σ w R) (h : ∀ σ' v w', R σ' v w' → OpsY E fn ops rest Q σ' (a.put o.dst v) w') : OpsY E fn ops (i :: rest) Q σ a w := fun b k cs hb hk hc => by
  have hfin : ∀ v, (b.at a (.inRegion ops (i :: rest) :: k)).finish v = b.at (a.put o.dst v) (.inRegion ops rest :: k) := fun v => by rw [Frame.finish_at, ho]; rfl
  refine E.ctl rfl (fun w => by rw [stepG_enter ho hw hk (h1 w).1]; unfold listed; rw [(h1 w).2, seen_none]) (hcall.run _ _ (fun σ' v w' p => ?_) (fun _ _ _ p => p.elim))
  unfold RetY
  rw [hfin]
  exact h σ' v w' p b k cs hb hk hc
/-- An operation that may draw. -/
theorem opsY_any {o : Oper} {i : Nat} {rest : List Nat} {σ : S} {a : Act} {w : World} (ho : ops[i]? = some o) (hw : Region.wanted o (yielded ops a.tmps) = true)
    (h : ∀ d, ∃ v w', (execOp a.eval o).run P (w.at d) = .ok (.value v) w' ∧ Ok (E.still σ) (w.at d) w' ((execOp a.eval o).events P (w.at d) #[]) ∧ NoMark ((execOp a.eval o).events P (w.at d) #[]) ∧ OpsY E fn ops rest Q σ (a.put o.dst v) w') : OpsY E fn ops (i :: rest) Q σ a w := fun b k cs hb hk hc =>
  E.step rfl fun d => by
    obtain ⟨v, w', h1, h2, h3, h4⟩ := h d
    have hsub : ∀ e ∈ listed P b.fn a o (w.at d), e ∈ (execOp a.eval o).events P (w.at d) #[] := fun e he => mem_listed he
    refine ⟨_, w', _, stepG_value ho hw hk h1, h2.sub hsub, .inl (h3.sub hsub), ?_⟩
    rw [E.after_nm σ _ (h3.sub hsub)]
    exact h4 b k cs hb hk hc
theorem enter_runP {o : Oper} {f : FuncId} {as : Array Value} {Post : S → Ending → World → Prop} {i : Nat} {rest : List Nat} {σ : S} {a : Act} {w : World} (ho : ops[i]? = some o) (hw : Region.wanted o (yielded ops a.tmps) = true)
    (h1 : ∀ u, (execOp a.eval o).run P u = .ok (.enter f as) u ∧ (execOp a.eval o).events P u #[] = #[]) (hcall : CallY E f as Post σ w) (hp : ∀ σ' ch w' a', Post σ' (.panicked ch) w' → a'.defers = a.defers → Q σ' (.panic ch) a' w') (h : ∀ σ' v w', Post σ' (.returned v) w' → OpsY E fn ops rest Q σ' (a.put o.dst v) w') : OpsY E fn ops (i :: rest) Q σ a w := fun b k cs hb hk hc => by
  have hfin : ∀ v, (b.at a (.inRegion ops (i :: rest) :: k)).finish v = b.at (a.put o.dst v) (.inRegion ops rest :: k) := fun v => by rw [Frame.finish_at, ho]; rfl
  refine E.ctl rfl (fun w => by rw [stepG_enter ho hw hk (h1 w).1]; unfold listed; rw [(h1 w).2, seen_none]) (hcall.run _ _ (fun σ' v w' p => ?_) (fun σ' ch w' p => ?_))
  · unfold RetY
    rw [hfin]
    exact h σ' v w' p b k cs hb hk hc
  · have := hc _ _ _ _ (hp σ' ch w' a p rfl) (.inRegion ops (i :: rest) :: k)
    exact this
theorem opsY_of_opY {i : Nat} {rest : List Nat} {σ : S} {a : Act} {w : World} (h : OpY E Q ops i (fun s a' w' => OpsY E fn ops rest Q s a' w') σ a w) : OpsY E fn ops (i :: rest) Q σ a w := by
  unfold OpY at h
  split at h
  · exact h.elim
  · rename_i o ho
    split at h
    · rename_i hw
      rcases h with ⟨v, w', es, h1, h2, h3, h4, h5, h6⟩ | ⟨w', es, h1, h2, h3, h4, h5, h6⟩ | ⟨f, as, R, h1, h2, h3⟩ | h | ⟨f, as, Post, h1, h2, h4, h3⟩
      · exact opsY_value ho hw h1 h2 h3 h4 h5 h6
      · exact opsY_none ho hw h1 h2 h3 h4 h5 h6
      · exact enter_run ho hw h1 h2 h3
      · exact opsY_any ho hw h
      · exact enter_runP ho hw h1 h2 h4 h3
    · rename_i hw; exact opsY_unwanted ho (by simpa using hw) h

/-- In state a, in every world that meets C, operation o leaves v in its temporary and does nothing else. -/
def YieldsY (P : Program) (ops : Array Oper) (C : World → Prop) (o : Oper) (v : Value) (a : Act) : Prop :=
  (Region.wanted o (yielded ops a.tmps) = true ∧ Nw (execOp a.eval o) ∧ ∀ w, C w → (execOp a.eval o).run P w = .ok (.value v) w) ∨
  (Region.wanted o (yielded ops a.tmps) = false ∧ v = undef)
theorem YieldsY.of_same {o : Oper} {v : Value} {a a' : Act} (hy : YieldsY P ops C o v a) (he : execOp a'.eval o = execOp a.eval o)
    (hw : Region.wanted o (yielded ops a'.tmps) = Region.wanted o (yielded ops a.tmps)) : YieldsY P ops C o v a' := by
  unfold YieldsY at *
  rw [he, hw]
  exact hy
theorem YieldsY.opY {i : Nat} {o : Oper} {v : Value} {a : Act} {σ : S} (hi : ops[i]? = some o) (hy : YieldsY P ops C o v a) {K : S → Act → World → Prop} {w : World} (hC : C w) (h : K σ (a.put o.dst v) w) : OpY E Q ops i K σ a w := by
  unfold OpY
  simp only [hi]
  rcases hy with ⟨hw, hnw, hv⟩ | ⟨hw, rfl⟩
  · simp only [hw, if_true]
    have hrT : (execOp a.eval o).runT P w #[] = (.ok (.value v) w, (execOp a.eval o).events P w #[]) := by rw [Sem.runT_eq, hv w hC]
    obtain ⟨hx, he⟩ := nw_run P _ _ _ _ _ _ hnw hrT
    have he' : ∀ e ∈ (execOp a.eval o).events P w #[], Rd e := fun e hm => (he e hm).elim (fun z => by simp at z) id
    have hlw : ∀ e ∈ (execOp a.eval o).events P w #[], (MemAct.ofEvent e).low w.heap.size := fun e hm => (nw_low P _ _ _ _ _ _ hnw hrT e hm).elim (fun z => by simp at z) id
    exact .inl ⟨v, w, _, ns_of_nw _ hnw, hrT, rfl, .of_ext hx he' hlw, noMark_of_rd he', h⟩
  · simp only [hw, Bool.false_eq_true, if_false]; exact h
theorem put_defers (a : Act) (d : Option Tmp) (v : Value) : (a.put d v).defers = a.defers := by unfold Act.put; cases d <;> rfl
theorem OpY_putIf {j : Nat} {oi oj : Oper} {v : Value} (hj : ops[j]? = some oj) (hap : oi.apart ops oj = true)
    (hsi : ∀ cs b, oi.op ≠ .select cs b) (hsj : ∀ cs b, oj.op ≠ .select cs b) {K : S → Act → World → Prop} {σ : S} {a : Act} {w : World}
    (hy : YieldsY P ops C oi v a) (h : OpY E Q ops j K σ (a.put oi.dst v) w) :
    OpY E Q ops j (fun s a' w' => YieldsY P ops C oi v a' ∧ K s (a'.put oi.dst v) w') σ a w := by
  obtain ⟨h1, h2, h3⟩ := Oper.apart_spec hap
  have keep : ∀ u, YieldsY P ops C oi v (a.put oj.dst u) := fun u => hy.of_same (execOp_put oi hsi a oj.dst u h3) (wanted_put oi a oj.dst u h3)
  unfold OpY at *
  simp only [hj] at *
  rw [wanted_put oj a oi.dst v h1] at h
  split
  · rename_i hw
    simp only [hw, if_true] at h
    unfold StepY at *
    rw [execOp_put oj hsj a oi.dst v h1] at h
    rcases h with ⟨x, w', es, g1, g2, g3, g4, g5, g6⟩ | ⟨w', es, g1, g2, g3, g4, g5, g6⟩ | ⟨f, as, R, g1, g2, g3⟩ | h | ⟨f, as, Post, g1, g2, g4, g3⟩
    · exact .inl ⟨x, w', es, g1, g2, g3, g4, g5, keep _, by rw [← Act.put_comm a v x h2]; exact g6⟩
    · exact .inr (.inl ⟨w', es, g1, g2, g3, g4, g5, keep _, by rw [← Act.put_comm a v undef h2]; exact g6⟩)
    · exact .inr (.inr (.inl ⟨f, as, R, g1, g2, fun σ' x w' r => ⟨keep _, by rw [← Act.put_comm a v x h2]; exact g3 σ' x w' r⟩⟩))
    · exact .inr (.inr (.inr (.inl fun d => by obtain ⟨x, w', g1, g2, g3, g4⟩ := h d; exact ⟨x, w', g1, g2, g3, keep _, by rw [← Act.put_comm a v x h2]; exact g4⟩)))
    · exact .inr (.inr (.inr (.inr ⟨f, as, Post, g1, g2, fun σ' ch w' a' p hd => g4 σ' ch w' a' p (hd.trans (by rw [put_defers])), fun σ' x w' r => ⟨keep _, by rw [← Act.put_comm a v x h2]; exact g3 σ' x w' r⟩⟩)))
  · rename_i hw
    simp only [hw] at h
    exact ⟨keep _, by rw [← Act.put_comm a v undef h2]; exact h⟩

/-- Some operation that is still to come waits for number i. -/
def waited (md : Region.Mode) (ops : Array Oper) (done : Array Bool) (i : Nat) : Bool :=
  (List.range ops.size).any fun z => z != i && !(done.getD z true) && ((ops[z]?).any fun o => o.after.any fun e => Region.binds md e && e.on == i)
theorem waited_spec {i : Nat} {done : Array Bool} (h : waited md ops done i = true) : ∃ z oz, ops[z]? = some oz ∧ z ≠ i ∧ done.getD z true = false ∧ ∃ e ∈ oz.after, Region.binds md e = true ∧ e.on = i := by
  unfold waited at h
  obtain ⟨z, _, h⟩ := List.any_eq_true.1 h
  simp only [Bool.and_eq_true, bne_iff_ne, ne_eq, Bool.not_eq_true'] at h
  obtain ⟨⟨h1, h2⟩, h3⟩ := h
  cases ho : ops[z]? with
  | none => rw [ho] at h3; simp at h3
  | some oz =>
    rw [ho] at h3
    simp only [Option.any_some, Array.any_eq_true] at h3
    obtain ⟨k, hk, h3⟩ := h3
    simp only [Bool.and_eq_true, beq_iff_eq] at h3
    exact ⟨z, oz, ho, h1, h2, _, Array.getElem_mem hk, h3.1, h3.2⟩
theorem all_done_false {done : Array Bool} {z : Nat} (h : done.getD z true = false) : done.all id = false := by
  rw [Array.all_eq_false]
  rcases Nat.lt_or_ge z done.size with hz | hz
  · exact ⟨z, hz, by simp [hz] at h; simp [h]⟩
  · simp [Array.getElem?_eq_none hz] at h
/-- Whatever order is picked from here on, AND C HOLDS BEHIND EVERY OPERATION THAT IS CARRIED OUT, but for the last. -/
def AnyY (E : Eng P S) (md : Region.Mode) (ops : Array Oper) (Q : S → Exit → Act → World → Prop) (C : World → Prop) : Nat → Array Bool → S → Act → World → Prop
  | 0, done, σ, a, w => Region.ready md ops done = [] ∧ Q σ .normal a w
  | fuel + 1, done, σ, a, w =>
    (Region.ready md ops done = [] → Q σ .normal a w) ∧
    ∀ i ∈ Region.ready md ops done, OpY E Q ops i (fun s a' w' => ((done.setIfInBounds i true).all id = true ∨ C w') ∧ AnyY E md ops Q C fuel (done.setIfInBounds i true) s a' w') σ a w
theorem anyY_sound : ∀ (fuel t : Nat) (done : Array Bool) (σ : S) (a : Act) (w : World), AnyY E md ops Q C fuel done σ a w →
    OpsY E fn ops (Region.linearise.go md ops fuel t done []) Q σ a w := by
  intro fuel
  induction fuel with
  | zero => intro t done σ a w h; simpa [Region.linearise.go] using opsY_nil h.2
  | succ fuel ih =>
    intro t done σ a w h
    obtain ⟨h₀, h₁⟩ := h
    simp only [Region.linearise.go]
    change OpsY E fn ops (match (Region.ready md ops done)[t % (Region.ready md ops done).length]? with
      | some i => Region.linearise.go md ops fuel (t / (Region.ready md ops done).length) (done.setIfInBounds i true) [i]
      | none => [].reverse) Q σ a w
    cases hi : (Region.ready md ops done)[t % (Region.ready md ops done).length]? with
    | none =>
      have hnil : Region.ready md ops done = [] := by
        cases hr : Region.ready md ops done with
        | nil => rfl
        | cons x xs =>
          rw [hr] at hi
          have hlt : t % (x :: xs).length < (x :: xs).length := Nat.mod_lt _ (by simp)
          simp at hi
          simp at hlt
          omega
      simpa using opsY_nil (h₀ hnil)
    | some i =>
      simp only []
      rw [linearise_go_acc, List.reverse_singleton, List.singleton_append]
      exact opsY_of_opY ((h₁ i (List.mem_of_getElem? hi)).mono (fun s a' w' x => ih _ _ s a' w' x.2))
theorem anyY_first {i : Nat} {oi : Oper} {v : Value} (hi : ops[i]? = some oi)
    (hsel : ∀ (j : Nat) (o : Oper) cs b, ops[j]? = some o → o.op ≠ .select cs b) :
    ∀ (fuel : Nat) (done : Array Bool) (σ : S) (a : Act) (w : World),
      (∀ j oj, ops[j]? = some oj → j ≠ i → done.getD j true = false → (∀ e ∈ oj.after, Region.binds md e = true → e.on ≠ i) → oi.apart ops oj = true) →
      (∃ z oz, ops[z]? = some oz ∧ z ≠ i ∧ done.getD z true = false ∧ ∃ e ∈ oz.after, Region.binds md e = true ∧ e.on = i) →
      i ∈ Region.ready md ops done → YieldsY P ops C oi v a → C w →
      AnyY E md ops Q C fuel (done.setIfInBounds i true) σ (a.put oi.dst v) w → AnyY E md ops Q C (fuel + 1) done σ a w := by
  intro fuel
  induction fuel with
  | zero =>
    intro done σ a w _ _ hr hy hS H
    refine ⟨fun h => (by rw [h] at hr; cases hr), fun j hj => ?_⟩
    by_cases hji : j = i
    · subst hji; exact hy.opY hi hS ⟨.inr hS, H⟩
    · have := ready_mono hj hji
      rw [H.1] at this
      cases this
  | succ fuel ih =>
    intro done σ a w hfree hz hr hy hS H
    refine ⟨fun h => (by rw [h] at hr; cases hr), fun j hj => ?_⟩
    by_cases hji : j = i
    · subst hji; exact hy.opY hi hS ⟨.inr hS, H⟩
    · have h1 := H.2 j (ready_mono hj hji)
      obtain ⟨hjun, oj, hoj, hall⟩ := mem_ready.1 hj
      have hnot : ∀ e ∈ oj.after, Region.binds md e = true → e.on ≠ i := fun e he hb heq => by
        have h1 := hall e he hb
        have h0 := (mem_ready.1 hr).1
        rw [heq] at h1
        rcases Nat.lt_or_ge i done.size with h' | h'
        · simp [h'] at h0 h1; rw [h0] at h1; cases h1
        · simp [Array.getElem?_eq_none h'] at h1
      have h2 := OpY_putIf hoj (hfree j oj hoj hji hjun hnot) (fun cs b => hsel i oi cs b hi) (fun cs b => hsel j oj cs b hoj) hy h1
      have hfree' : ∀ k ok, ops[k]? = some ok → k ≠ i → (done.setIfInBounds j true).getD k true = false →
          (∀ e ∈ ok.after, Region.binds md e = true → e.on ≠ i) → oi.apart ops ok = true := fun k ok hk hki hun hno => by
        refine hfree k ok hk hki ?_ hno
        by_cases hjk : j = k
        · subst hjk; exact hjun
        · rw [getD_set_ne true hjk] at hun; exact hun
      obtain ⟨z, oz, hoz, hzi, hzd, ez, hez, hbz, hez2⟩ := hz
      have hzj : z ≠ j := fun e => by
        subst e
        rw [hoj] at hoz
        obtain rfl := Option.some.inj hoz
        exact hnot ez hez hbz hez2
      have hzd' : (done.setIfInBounds j true).getD z true = false := by rw [getD_set_ne true (Ne.symm hzj)]; exact hzd
      refine h2.mono (fun s a' w' h3 => ?_)
      have hC' : C w' := h3.2.1.elim (fun x => by
        rw [all_done_false (z := z) (by rw [getD_set_ne true (Ne.symm hzj), getD_set_ne true (Ne.symm hzi)]; exact hzd)] at x
        cases x) id
      refine ⟨.inr hC', ih (done.setIfInBounds j true) s a' w' hfree' ⟨z, oz, hoz, hzi, hzd', ez, hez, hbz, hez2⟩ (ready_mono hr (Ne.symm hji)) h3.1 hC' ?_⟩
      rw [Array.setIfInBounds_comm _ _ hji]
      exact h3.2.2
/-- Take number i first. -/
theorem anyY_take {i : Nat} {oi : Oper} {v : Value} {fuel : Nat} {done : Array Bool} {σ : S} {a : Act} {w : World} (hi : ops[i]? = some oi)
    (hs : Region.noSelect ops = true) (hf : Region.free md ops done i = true) (hz : waited md ops done i = true) (hr : (Region.ready md ops done).contains i = true)
    (hy : YieldsY P ops C oi v a) (hS : C w) (h : AnyY E md ops Q C fuel (done.setIfInBounds i true) σ (a.put oi.dst v) w) : AnyY E md ops Q C (fuel + 1) done σ a w :=
  anyY_first hi (Region.noSelect_spec hs) fuel done σ a w (Region.free_spec hi hf) (waited_spec hz) (by simpa using hr) hy hS h
/-- Only number i may come up. -/
theorem anyY_one {i : Nat} {fuel : Nat} {done : Array Bool} {σ : S} {a : Act} {w : World} (hr : Region.ready md ops done = [i])
    (h : OpY E Q ops i (fun s a' w' => ((done.setIfInBounds i true).all id = true ∨ C w') ∧ AnyY E md ops Q C fuel (done.setIfInBounds i true) s a' w') σ a w) : AnyY E md ops Q C (fuel + 1) done σ a w :=
  ⟨fun h0 => absurd (hr ▸ h0) (by simp), fun j hj => by rw [hr] at hj; simp at hj; subst hj; exact h⟩
theorem anyY_two {i j : Nat} {fuel : Nat} {done : Array Bool} {σ : S} {a : Act} {w : World} (hr : Region.ready md ops done = [i, j])
    (h : OpY E Q ops i (fun s a' w' => ((done.setIfInBounds i true).all id = true ∨ C w') ∧ AnyY E md ops Q C fuel (done.setIfInBounds i true) s a' w') σ a w)
    (h' : OpY E Q ops j (fun s a' w' => ((done.setIfInBounds j true).all id = true ∨ C w') ∧ AnyY E md ops Q C fuel (done.setIfInBounds j true) s a' w') σ a w) : AnyY E md ops Q C (fuel + 1) done σ a w :=
  ⟨fun h0 => absurd (hr ▸ h0) (by simp), fun x hx => by rw [hr] at hx; simp at hx; rcases hx with rfl | rfl <;> assumption⟩
theorem anyY_done {done : Array Bool} {σ : S} {a : Act} {w : World} (hr : Region.ready md ops done = []) (h : Q σ .normal a w) : ∀ fuel, AnyY E md ops Q C fuel done σ a w
  | 0 => ⟨hr, h⟩
  | _ + 1 => ⟨fun _ => h, fun i hi => by rw [hr] at hi; cases hi⟩
/-- THE BEGINNING. -/
theorem codeY_drawn (C : World → Prop) {id : Nat} {σ : S} {a : Act} {w : World} (hm : P.follows .mixedOrders = true)
    (h : AnyY E .any ops Q C ops.size (Array.replicate ops.size false) σ a w) : CodeY E fn (.region id ops true) Q σ a w := fun b k cs hb hk hc =>
  E.step rfl fun d => ⟨_, { w.at d with drawn := (w.at d).drawn + 1 }, #[], stepG_region_draw, (Ok.refl _ w).at d (d + 1), .inl noMark_nil, by
    rw [E.after_nm σ #[] noMark_nil]
    have h' := anyY_sound (fn := fn) ops.size (w.tape d (.order b.fn id)) (Array.replicate ops.size false) σ a w h b k cs hb hk hc
    have hs : Region.schedule (P.follows .mixedOrders) ops ((w.at d).tape (w.at d).drawn (.order b.fn id)) = Region.linearise.go .any ops ops.size (w.tape d (.order b.fn id)) (Array.replicate ops.size false) [] := by
      simp only [Region.schedule, hm, Bool.true_or, if_true]
      rfl
    rw [hs]
    exact E.rel h' (d + 1)⟩
theorem codeY_drawn_k (C : World → Prop) {id : Nat} {σ : S} {a : Act} {w : World} (hm : P.follows .mixedOrders = true)
    (h : ∀ K : S → Exit → Act → World → Prop, (∀ σ e a w, Q σ e a w → K σ e a w) → AnyY E .any ops K C ops.size (Array.replicate ops.size false) σ a w) : CodeY E fn (.region id ops true) Q σ a w :=
  codeY_drawn C hm (h Q fun _ _ _ _ z => z)
/-- A call that comes up. -/
theorem opY_callR {i : Nat} {o : Oper} {f : FuncId} {args : Array Operand} {ats : Array TypeId} {as : Array Value} {R : S → Value → World → Prop} {K : S → Act → World → Prop} {σ : S} {a : Act} {w : World} (hcall : CallR E f as σ w R) (ho : ops[i]? = some o) (hw : Region.wanted o (yielded ops a.tmps) = true)
    (hop : o.op = .call { callee := .value (.func f), args, argTypes := ats }) (hargs : args.map a.eval = as) (h : ∀ σ' v w', R σ' v w' → K σ' (a.put o.dst v) w') : OpY E Q ops i K σ a w := by
  subst hargs
  unfold OpY
  simp only [ho, hw, if_true]
  obtain ⟨fnc, hf, hname, hbody⟩ := hcall.has
  refine .inr (.inr (.inl ⟨f, args.map a.eval, R, fun u => ?_, hcall, h⟩))
  have := run_callv (a := a) (first := #[]) (captured := #[]) hop rfl hf hname hbody u
  simpa using this
theorem opY_callTo {i : Nat} {o : Oper} {f : FuncId} {args : Array Operand} {ats : Array TypeId} {as : Array Value} {σ' : S} {v : Value} {w' : World} {K : S → Act → World → Prop} {σ : S} {a : Act} {w : World} (hcall : CallTo E f as σ w σ' v w') (ho : ops[i]? = some o) (hw : Region.wanted o (yielded ops a.tmps) = true)
    (hop : o.op = .call { callee := .value (.func f), args, argTypes := ats }) (hargs : args.map a.eval = as) (h : K σ' (a.put o.dst v) w') : OpY E Q ops i K σ a w :=
  opY_callR hcall ho hw hop hargs (fun _ _ _ p => by obtain ⟨rfl, rfl, rfl⟩ := p; exact h)
/-- What writes nothing comes up. -/
theorem opY_nw {i : Nat} {o : Oper} {K : S → Act → World → Prop} {σ : S} {a : Act} {w : World} (ho : ops[i]? = some o) (hw : Region.wanted o (yielded ops a.tmps) = true) (hnw : Nw (execOp a.eval o))
    (h : ∀ K' : Act → World → Prop, (∀ a' w', (w'.drawn = w.drawn ∧ K σ a' w') → K' a' w') → uponK o a K' ((execOp a.eval o).run P w)) : OpY E Q ops i K σ a w := by
  unfold OpY
  simp only [ho, hw, if_true]
  have h' := h (fun a' w' => w'.drawn = w.drawn ∧ K σ a' w') (fun _ _ x => x)
  have hrT := Sem.runT_eq P (execOp a.eval o) w #[]
  revert h' hrT
  generalize (execOp a.eval o).run P w = r
  intro h' hrT
  cases r with
  | halt hh w' => exact h'.elim
  | ok x w' =>
    obtain ⟨hx, he⟩ := nw_run P _ _ _ _ _ _ hnw hrT
    have he' : ∀ e ∈ (execOp a.eval o).events P w #[], Rd e := fun e hm => (he e hm).elim (fun z => by simp at z) id
    have hlw : ∀ e ∈ (execOp a.eval o).events P w #[], (MemAct.ofEvent e).low w'.heap.size := fun e hm => (nw_low P _ _ _ _ _ _ hnw hrT e hm).elim (fun z => by simp at z) id
    cases x with
    | value v => exact .inl ⟨v, w', _, ns_of_nw _ hnw, hrT, h'.1, .of_ext hx he' hlw, noMark_of_rd he', h'.2⟩
    | skip => exact .inr (.inl ⟨w', _, ns_of_nw _ hnw, hrT, h'.1, .of_ext hx he' hlw, noMark_of_rd he', h'.2⟩)
    | _ => exact h'.elim
/-- A store of one cell comes up. -/
theorem opY_store1 {i : Nat} {K : S → Act → World → Prop} {σ : S} {a : Act} {w : World} {t : TypeId} {x y : Operand} {ad : Addr} {v u : Value} {dst : Option Tmp} {ty : TypeId} {pos : String} {af : Array Edge} {gu : Option (Nat × Bool)} (ho : ops[i]? = some ⟨dst, .store t x y, ty, pos, af, gu⟩) (hw : Region.wanted ⟨dst, .store t x y, ty, pos, af, gu⟩ (yielded ops a.tmps) = true)
    (hsz : (P.info? t).map (·.size) = some 1) (hx : a.eval x = .pointer (some ad)) (hy : a.eval y = v) (hv : v.cells = #[v]) (hv1 : v.oneCell' = true) (hc : w.cell? ad = some u) (hz : w.frozen? ad = false)
    (hs : ¬ E.still σ ad) (h : K σ (a.put dst undef) (w.setCell ad v)) : OpY E Q ops i K σ a w := by
  unfold OpY
  simp only [ho, hw, if_true]
  obtain ⟨h1, h2⟩ := storeOp_one (P := P) (w := w) (dst := dst) (ty := ty) (pos := pos) (af := af) (gu := gu) hsz hx hy hv hv1 hc hz
  exact .inr (.inl ⟨w.setCell ad v, #[⟨.cell ad, true, false⟩], ns_storeOp, by rw [Sem.runT_eq, h1, h2], rfl, .set hs (World.block_lt_of_cell? _ _ hc) (by simp), noMark_cell1 _ _ _, h⟩)
/-- Through a call of a function value. -/
theorem opsY_callvR {i : Nat} {rest : List Nat} {o : Oper} {σ : S} {a : Act} {w : World} {f : FuncId} {x : Operand} {first captured : Array Value} {args : Array Operand} {ats : Array TypeId} {as : Array Value} {R : S → Value → World → Prop} (hcall : CallR E f as σ w R) (ho : ops[i]? = some o) (hw : Region.wanted o (yielded ops a.tmps) = true)
    (hop : o.op = .call { callee := .value x, args, argTypes := ats }) (hx : a.eval x = .func (.func f) first captured) (hargs : first ++ args.map a.eval ++ captured = as) (h : ∀ σ' v w', R σ' v w' → OpsY E fn ops rest Q σ' (a.put o.dst v) w') : OpsY E fn ops (i :: rest) Q σ a w := by
  subst hargs
  exact opsY_callv ho hw hop hx hcall (fun σ' v w' p => h σ' v w' p) (fun _ _ _ p => p.elim)
end
end Go.Proofs.Ythnfheohfnhcpaa.Y
