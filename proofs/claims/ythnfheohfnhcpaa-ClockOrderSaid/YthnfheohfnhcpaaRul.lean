/- Rules for operations that write: atomic steps, marks, stores of one cell. -/
import Derived.Test.YthnfheohfnhcpaaOps
import Derived.Conc.AtomicLaws2
import Derived.Conc.SmallLaws
import Derived.Laws.LoneSync
import Derived.Laws.Entries
import Derived.Laws.IdiomCopy
import Derived.Conc.MarkLaws
set_option linter.unusedSimpArgs false
set_option linter.unusedVariables false
namespace Go.Proofs.Ythnfheohfnhcpaa.Y
open Go Go.Conc
section
variable {P : Program} {S : Type} {E : Eng P S} {fn : FuncId} {Q : S → Exit → Act → World → Prop} {σ : S} {a : Act} {w : World} {ops : Array Oper} {i : Nat} {rest : List Nat} {o : Oper}

theorem opsY_stepw {v : Value} {w' : World} {evs : Array Event} (hst : ∀ (b : Frame) (k : List Item) (cs : List Frame), b.fn = fn → b.kind ≠ .early → ∀ d,
      stepG P E.main (G (b.at a (.inRegion ops (i :: rest) :: k)) cs) (w.at d) = .go (G (b.at (a.put o.dst v) (.inRegion ops rest :: k)) cs) (w'.at d) evs)
    (hok : Ok (E.still σ) w w' evs) (hm : NoMark evs ∨ E.mayMark σ) (h : OpsY E fn ops rest Q (E.after σ evs) (a.put o.dst v) w') : OpsY E fn ops (i :: rest) Q σ a w := fun b k cs hb hk hc =>
  E.step rfl fun d => ⟨_, w'.at d, evs, hst b k cs hb hk d, hok.at d d, hm, E.rel (h b k cs hb hk hc) d⟩

/-- A body-less function of the model's, by its entry. -/
structure Ent (P : Program) (f : FuncId) (e : Array Value → Sem Value) : Prop where
  is : ∃ fnc, P.funcs[f]? = some fnc ∧ (fnc.name == "runtime.NumGoroutine") = false ∧ fnc.body.isNone = true ∧ Extern.findNext fnc = none ∧ Extern.find fnc = some e

theorem noMark_cell1 (ad : Addr) (b c : Bool) : NoMark #[⟨.cell ad, b, c⟩] := by intro e he m hm; simp at he; subst he; cases hm
theorem noMark_cell2 (ad : Addr) (b c d e : Bool) : NoMark #[⟨.cell ad, b, c⟩, ⟨.cell ad, d, e⟩] := by
  intro x hx m hm; simp at hx; rcases hx with rfl | rfl <;> cases hm
theorem ofEvent_cell (ad : Addr) (b c : Bool) : MemAct.ofEvent ⟨.cell ad, b, c⟩ = .access ⟨.cell ad, b, c⟩ := by cases b <;> cases c <;> rfl
theorem low_cell {ad : Addr} {b c : Bool} {B : Nat} (h : ad.block < B) : (MemAct.ofEvent ⟨.cell ad, b, c⟩).low B := by rw [ofEvent_cell]; exact h
theorem low_at {e : Event} {ad : Addr} {B : Nat} (he : e.loc = .cell ad) (h : ad.block < B) : (MemAct.ofEvent e).low B := by
  obtain ⟨l, b, c⟩ := e; simp only at he; subst he; exact low_cell h
theorem Ok.read1 (St : Addr → Prop) (w : World) (ad : Addr) (c : Bool) {v : Value} (hc : w.cell? ad = some v) : Ok St w w #[⟨.cell ad, false, c⟩] :=
  .of_ext (.refl w) (fun e he => by simp at he; subst he; exact ⟨rfl, by simp, by simp, by simp⟩) fun e he => by simp at he; subst he; exact low_cell (World.block_lt_of_cell? _ _ hc)
theorem size_set (w : World) (a : Addr) (v : Value) : (w.setCell a v).heap.size = w.heap.size := by simp [World.setCell]
theorem Ok.set {St : Addr → Prop} {w : World} {ad : Addr} {v : Value} {es : Array Event} (hs : ¬ St ad) (hlt : ad.block < w.heap.size) (he : ∀ e ∈ es, e.loc = .cell ad) : Ok St w (w.setCell ad v) es := by
  refine ⟨fun e hm a hl _ => ?_, fun e hm m hl => ?_, fun a ha _ => ?_, fun c cap buf cl s r tm hc => ?_, fun e hm => low_at (he e hm) (by rw [size_set]; exact hlt), by rw [size_set]; exact Nat.le_refl _⟩
  · rw [he e hm] at hl; obtain rfl := Loc.cell.inj hl; exact hs
  · rw [he e hm] at hl; cases hl
  · exact ⟨World.cell?_setCell_other w ad a v (fun e => hs (e ▸ ha)), World.frozen?_setCell w ad a v⟩
  · simp only [World.setCell, Array.getElem?_modify]
    split
    · rename_i hb; subst hb; rw [hc]; rfl
    · rfl
theorem at_set (w : World) (d : Nat) (ad : Addr) (v : Value) : (w.at d).setCell ad v = (w.setCell ad v).at d := rfl

/-- An atomic load. -/
theorem opsY_aload {f : FuncId} {x : Operand} {ats : Array TypeId} {k : IntKind} {ad : Addr} {v : Int} (ho : ops[i]? = some o) (hw : Region.wanted o (yielded ops a.tmps) = true)
    (hop : o.op = .call { callee := .value (.func f), args := #[x], argTypes := ats }) (he : Ent P f (Extern.Atomic.loadT (.int k))) (hx : a.eval x = .pointer (some ad)) (hc : w.cell? ad = some (.int k v))
    (h : OpsY E fn ops rest Q σ (a.put o.dst (.int k v)) w) : OpsY E fn ops (i :: rest) Q σ a w := by
  obtain ⟨fnc, hf, hn, hb, hnx, hfe⟩ := he.is
  refine opsY_stepw (o := o) (v := .int k v) (w' := w) (evs := #[⟨.cell ad, false, true⟩]) (fun b kk cs hb' hk d => stepG_load_atomic ho hw hk hop hf hn hb hnx k hfe hx hc) (.read1 _ _ _ _ hc) (.inl (noMark_cell1 _ _ _)) ?_
  rw [E.after_nm _ _ (noMark_cell1 _ _ _)]; exact h
/-- An atomic store. -/
theorem opsY_astore {f : FuncId} {x y : Operand} {ats : Array TypeId} {k : IntKind} {ad : Addr} {v : Int} {u : Value} (ho : ops[i]? = some o) (hw : Region.wanted o (yielded ops a.tmps) = true)
    (hop : o.op = .call { callee := .value (.func f), args := #[x, y], argTypes := ats }) (he : Ent P f Extern.Atomic.storeT) (hx : a.eval x = .pointer (some ad)) (hy : a.eval y = .int k v) (hc : w.cell? ad = some u) (hz : w.frozen? ad = false)
    (hs : ¬ E.still σ ad) (h : OpsY E fn ops rest Q σ (a.put o.dst (.tuple #[])) (w.setCell ad (.int k v))) : OpsY E fn ops (i :: rest) Q σ a w := by
  obtain ⟨fnc, hf, hn, hb, hnx, hfe⟩ := he.is
  refine opsY_stepw (o := o) (v := .tuple #[]) (w' := w.setCell ad (.int k v)) (evs := #[⟨.cell ad, true, true⟩]) (fun b kk cs hb' hk d => stepG_store_atomic ho hw hk hop hf hn hb hnx hfe hx hy hc hz)
    (.set hs (World.block_lt_of_cell? _ _ hc) (by simp)) (.inl (noMark_cell1 _ _ _)) ?_
  rw [E.after_nm _ _ (noMark_cell1 _ _ _)]; exact h
/-- An atomic Add. -/
theorem opsY_aadd {f : FuncId} {x y : Operand} {ats : Array TypeId} {k : IntKind} {ad : Addr} {v d r : Int} (ho : ops[i]? = some o) (hw : Region.wanted o (yielded ops a.tmps) = true)
    (hop : o.op = .call { callee := .value (.func f), args := #[x, y], argTypes := ats }) (he : Ent P f (Extern.Atomic.update (Op.intArith .add) k true)) (hx : a.eval x = .pointer (some ad)) (hy : a.eval y = .int k d) (hc : w.cell? ad = some (.int k v)) (hz : w.frozen? ad = false) (hr : k.wrap (v + d) = r)
    (hs : ¬ E.still σ ad) (h : OpsY E fn ops rest Q σ (a.put o.dst (.int k r)) (w.setCell ad (.int k r))) : OpsY E fn ops (i :: rest) Q σ a w := by
  subst hr
  obtain ⟨fnc, hf, hn, hb, hnx, hfe⟩ := he.is
  refine opsY_stepw (o := o) (v := .int k (k.wrap (v + d))) (w' := w.setCell ad (.int k (k.wrap (v + d)))) (evs := #[⟨.cell ad, false, true⟩, ⟨.cell ad, true, true⟩]) (fun b kk cs hb' hk _ => stepG_add_atomic ho hw hk hop hf hn hb hnx k hfe hx hy hc hz)
    (.set hs (World.block_lt_of_cell? _ _ hc) (by simp)) (.inl (noMark_cell2 _ _ _ _ _)) ?_
  rw [E.after_nm _ _ (noMark_cell2 _ _ _ _ _)]; exact h
theorem opsY_cashit {f : FuncId} {x y z : Operand} {ats : Array TypeId} {k : IntKind} {ad : Addr} {v n : Int} (ho : ops[i]? = some o) (hw : Region.wanted o (yielded ops a.tmps) = true)
    (hop : o.op = .call { callee := .value (.func f), args := #[x, y, z], argTypes := ats }) (he : Ent P f (Extern.Atomic.casT (.int k))) (hx : a.eval x = .pointer (some ad)) (hy : a.eval y = .int k v) (hzz : a.eval z = .int k n) (hc : w.cell? ad = some (.int k v)) (hz : w.frozen? ad = false)
    (hs : ¬ E.still σ ad) (h : OpsY E fn ops rest Q σ (a.put o.dst (.bool true)) (w.setCell ad (.int k n))) : OpsY E fn ops (i :: rest) Q σ a w := by
  obtain ⟨fnc, hf, hn, hb, hnx, hfe⟩ := he.is
  refine opsY_stepw (o := o) (v := .bool true) (w' := w.setCell ad (.int k n)) (evs := #[⟨.cell ad, false, true⟩, ⟨.cell ad, true, true⟩]) (fun b kk cs hb' hk _ => stepG_cas_hit ho hw hk hop hf hn hb hnx k hfe hx hy hzz hc hz)
    (.set hs (World.block_lt_of_cell? _ _ hc) (by simp)) (.inl (noMark_cell2 _ _ _ _ _)) ?_
  rw [E.after_nm _ _ (noMark_cell2 _ _ _ _ _)]; exact h
theorem opsY_casmiss {f : FuncId} {x y z : Operand} {ats : Array TypeId} {k : IntKind} {ad : Addr} {v old n : Int} (ho : ops[i]? = some o) (hw : Region.wanted o (yielded ops a.tmps) = true)
    (hop : o.op = .call { callee := .value (.func f), args := #[x, y, z], argTypes := ats }) (he : Ent P f (Extern.Atomic.casT (.int k))) (hx : a.eval x = .pointer (some ad)) (hy : a.eval y = .int k old) (hzz : a.eval z = .int k n) (hc : w.cell? ad = some (.int k v)) (hz : w.frozen? ad = false) (hne : ¬ v = old)
    (h : OpsY E fn ops rest Q σ (a.put o.dst (.bool false)) w) : OpsY E fn ops (i :: rest) Q σ a w := by
  obtain ⟨fnc, hf, hn, hb, hnx, hfe⟩ := he.is
  refine opsY_stepw (o := o) (v := .bool false) (w' := w) (evs := #[⟨.cell ad, false, true⟩]) (fun b kk cs hb' hk _ => stepG_cas_miss ho hw hk hop hf hn hb hnx k hfe hx hy hzz hc hz hne)
    (.read1 _ _ _ _ hc) (.inl (noMark_cell1 _ _ _)) ?_
  rw [E.after_nm _ _ (noMark_cell1 _ _ _)]; exact h
theorem Ok.mark (St : Addr → Prop) (w : World) (m : Mark) (hq : Quiet m) (hl : (MemAct.mark m).low w.heap.size) : Ok St w w #[⟨.mark m, false, true⟩] :=
  ⟨fun e he a hl _ => (by simp at he; subst he; cases hl), fun e he n hl => (by simp at he; subst he; obtain rfl := Loc.mark.inj hl; exact hq), fun _ _ _ => ⟨rfl, rfl⟩, fun _ _ _ _ _ _ _ _ => rfl, fun e he => (by simp at he; subst he; exact hl), Nat.le_refl _⟩
/-- A word of the race detector's without an address. -/
theorem opsY_mark0 {f : FuncId} {as : Array Operand} {ats : Array TypeId} (m : Mark) (hm : ∀ g, m ≠ .extern g) (hq : Quiet m) (hlow : ∀ B, (MemAct.mark m).low B) (ho : ops[i]? = some o) (hw : Region.wanted o (yielded ops a.tmps) = true)
    (hop : o.op = .call { callee := .value (.func f), args := as, argTypes := ats }) (he : Ent P f (fun _ => do mark m; pure Extern.Race.none_)) (hmay : E.mayMark σ)
    (h : OpsY E fn ops rest Q (E.after σ #[⟨.mark m, false, true⟩]) (a.put o.dst (.tuple #[])) w) : OpsY E fn ops (i :: rest) Q σ a w := by
  obtain ⟨fnc, hf, hn, hb, hnx, hfe⟩ := he.is
  exact opsY_stepw (o := o) (v := .tuple #[]) (w' := w) (evs := #[⟨.mark m, false, true⟩]) (fun b kk cs hb' hk _ => stepG_mark0 m hm ho hw hk hop hf hn hb hnx hfe) (.mark _ _ _ hq (hlow _)) (.inr hmay) h
/-- The goroutine goes deaf. -/
def deafer (E : Eng P S) (σ : S) : S := E.after σ #[⟨.mark .disable, false, true⟩]
theorem opsY_disable {f : FuncId} {as : Array Operand} {ats : Array TypeId} (ho : ops[i]? = some o) (hw : Region.wanted o (yielded ops a.tmps) = true)
    (hop : o.op = .call { callee := .value (.func f), args := as, argTypes := ats }) (he : Ent P f (fun _ => do mark .disable; pure Extern.Race.none_)) (hmay : E.mayMark σ)
    (h : OpsY E fn ops rest Q (deafer E σ) (a.put o.dst (.tuple #[])) w) : OpsY E fn ops (i :: rest) Q σ a w := opsY_mark0 .disable (by simp) trivial (fun _ => trivial) ho hw hop he hmay h
/-- .. and hears again. -/
theorem opsY_enable {f : FuncId} {as : Array Operand} {ats : Array TypeId} (ho : ops[i]? = some o) (hw : Region.wanted o (yielded ops a.tmps) = true)
    (hop : o.op = .call { callee := .value (.func f), args := as, argTypes := ats }) (he : Ent P f (fun _ => do mark .enable; pure Extern.Race.none_)) (hmay : E.mayMark σ)
    (h : OpsY E fn ops rest Q σ (a.put o.dst (.tuple #[])) w) : OpsY E fn ops (i :: rest) Q (deafer E σ) a w := opsY_mark0 .enable (by simp) trivial (fun _ => trivial) ho hw hop he (E.mayMark_after _ _ hmay) (by rw [deafer, E.after_pair]; exact h)
theorem deafer_still (σ : S) (ad : Addr) (h : ¬ E.still σ ad) : ¬ E.still (deafer E σ) ad := by rw [deafer, E.still_after]; exact h
/-- .. with an address. -/
theorem opsY_markAt {f : FuncId} {x : Operand} {ats : Array TypeId} {ad : Addr} (mk : Addr → Mark) (hm : ∀ ad g, mk ad ≠ .extern g) (hq : Quiet (mk ad)) (h1 : mk ad ≠ .disable) (h2 : mk ad ≠ .enable) (ho : ops[i]? = some o) (hw : Region.wanted o (yielded ops a.tmps) = true)
    (hop : o.op = .call { callee := .value (.func f), args := #[x], argTypes := ats }) (he : Ent P f (Extern.Race.marked mk)) (hx : a.eval x = .pointer (some ad)) (hmay : E.mayMark σ) (hlow : (MemAct.mark (mk ad)).low w.heap.size)
    (h : OpsY E fn ops rest Q σ (a.put o.dst (.tuple #[])) w) : OpsY E fn ops (i :: rest) Q σ a w := by
  obtain ⟨fnc, hf, hn, hb, hnx, hfe⟩ := he.is
  refine opsY_stepw (o := o) (v := .tuple #[]) (w' := w) (evs := #[⟨.mark (mk ad), false, true⟩]) (fun b kk cs hb' hk _ => stepG_markAt mk hm ho hw hk hop hf hn hb hnx hfe (by simp [hx])) (.mark _ _ _ hq hlow) (.inr hmay) ?_
  rw [E.after_other _ _ h1 h2]; exact h

/-! ### stores -/
theorem ns_typeInfo (t : TypeId) : Ns (typeInfo t) := ns_of_nw _ (nw_typeInfo t)
theorem ns_storeCells (a : Addr) : ∀ (vs : List Value) (n : Nat), Ns (storeCells a vs n)
  | [], _ => trivial
  | _ :: vs, n => ns_bind (show Ns (store _ _) from trivial) fun _ => ns_storeCells a vs (n + 1)
theorem ns_storeVar (t : TypeId) (a : Addr) (v : Value) : Ns (storeVar t a v) := by
  unfold storeVar
  refine ns_bind (ns_of_nw _ (nw_sizeOf t)) fun _ => ?_
  dsimp only
  split
  · exact ns_bind trivial fun _ => ns_storeCells _ _ _
  · exact ns_storeCells _ _ _
theorem ns_storeOp {ρ : Operand → Value} {dst : Option Tmp} {ty : TypeId} {pos : String} {af : Array Edge} {gu : Option (Nat × Bool)} {t : TypeId} {x y : Operand} : Ns (execOp ρ ⟨dst, .store t x y, ty, pos, af, gu⟩) :=
  ns_bind (ns_bind (ns_of_nw _ (nw_sureAddr _)) fun _ => ns_storeVar _ _ _) fun _ => trivial
theorem storeOp_one {t : TypeId} {x y : Operand} {ad : Addr} {v u : Value} {dst : Option Tmp} {ty : TypeId} {pos : String} {af : Array Edge} {gu : Option (Nat × Bool)}
    (hsz : (P.info? t).map (·.size) = some 1) (hx : a.eval x = .pointer (some ad)) (hy : a.eval y = v) (hv : v.cells = #[v]) (hv1 : v.oneCell' = true) (hc : w.cell? ad = some u) (hz : w.frozen? ad = false) :
    (execOp a.eval ⟨dst, .store t x y, ty, pos, af, gu⟩).run P w = .ok .skip (w.setCell ad v) ∧ (execOp a.eval ⟨dst, .store t x y, ty, pos, af, gu⟩).events P w #[] = #[⟨.cell ad, true, false⟩] := by
  have hadd : ad.add 0 = ad := by simp [Addr.add]
  obtain ⟨inf, hinf, hz1⟩ := Option.map_eq_some_iff.1 hsz
  have hti : (typeInfo t).run P w = .ok inf w := by simp [typeInfo, hinf]
  have hso : (sizeOf t).run P w = .ok 1 w := by simp [sizeOf, hti, hz1]
  constructor
  · subst hy
    simp only [execOp, Instr.storeAt, Instr.sureAddr, hx]
    simp [storeVar, hso, hv, storeCells, hadd, run_store P w ad _ .plain hv1, stored, hc, hz]
  · subst hy
    simp only [execOp, Instr.storeAt, Instr.sureAddr, hx]
    simp [storeVar, hso, hv, storeCells, hadd, run_store P w ad _ .plain hv1, events_store P w _ ad _ .plain hv1, stored, hc, hz]
/-- A store of one cell. -/
theorem opsY_store1 {t : TypeId} {x y : Operand} {ad : Addr} {v u : Value} {dst : Option Tmp} {ty : TypeId} {pos : String} {af : Array Edge} {gu : Option (Nat × Bool)} (ho : ops[i]? = some ⟨dst, .store t x y, ty, pos, af, gu⟩) (hw : Region.wanted ⟨dst, .store t x y, ty, pos, af, gu⟩ (yielded ops a.tmps) = true)
    (hsz : (P.info? t).map (·.size) = some 1) (hx : a.eval x = .pointer (some ad)) (hy : a.eval y = v) (hv : v.cells = #[v]) (hv1 : v.oneCell' = true) (hc : w.cell? ad = some u) (hz : w.frozen? ad = false)
    (hs : ¬ E.still σ ad) (h : OpsY E fn ops rest Q σ (a.put dst undef) (w.setCell ad v)) : OpsY E fn ops (i :: rest) Q σ a w := by
  obtain ⟨h1, h2⟩ := storeOp_one (P := P) (w := w) (dst := dst) (ty := ty) (pos := pos) (af := af) (gu := gu) hsz hx hy hv hv1 hc hz
  exact opsY_none ho hw ns_storeOp (w' := w.setCell ad v) (es := #[⟨.cell ad, true, false⟩]) (by rw [Sem.runT_eq, h1, h2]) rfl (.set hs (World.block_lt_of_cell? _ _ hc) (by simp)) (noMark_cell1 _ _ _) h
/-! ### contracts without a panic -/
/-- Returned, so. -/
def retY (R : S → Value → World → Prop) : S → Ending → World → Prop
  | σ, .returned v, w => R σ v w
  | _, _, _ => False
/-- It returns just this. -/
def CallTo (E : Eng P S) (f : FuncId) (args : Array Value) (σ : S) (w : World) (σ' : S) (v : Value) (w' : World) : Prop := CallY E f args (retY fun s x u => s = σ' ∧ x = v ∧ u = w') σ w
/-- It returns, so. -/
def CallR (E : Eng P S) (f : FuncId) (args : Array Value) (σ : S) (w : World) (R : S → Value → World → Prop) : Prop := CallY E f args (retY R) σ w
theorem opsY_callR {f : FuncId} {args : Array Operand} {ats : Array TypeId} {as : Array Value} {R : S → Value → World → Prop} (hcall : CallR E f as σ w R) (ho : ops[i]? = some o) (hw : Region.wanted o (yielded ops a.tmps) = true)
    (hop : o.op = .call { callee := .value (.func f), args, argTypes := ats }) (hargs : args.map a.eval = as) (h : ∀ σ' v w', R σ' v w' → OpsY E fn ops rest Q σ' (a.put o.dst v) w') : OpsY E fn ops (i :: rest) Q σ a w := by
  subst hargs
  exact opsY_call ho hw hop hcall (fun σ' v w' p => h σ' v w' p) (fun _ _ _ p => p.elim)
theorem opsY_callTo {f : FuncId} {args : Array Operand} {ats : Array TypeId} {as : Array Value} {σ' : S} {v : Value} {w' : World} (hcall : CallTo E f as σ w σ' v w') (ho : ops[i]? = some o) (hw : Region.wanted o (yielded ops a.tmps) = true)
    (hop : o.op = .call { callee := .value (.func f), args, argTypes := ats }) (hargs : args.map a.eval = as) (h : OpsY E fn ops rest Q σ' (a.put o.dst v) w') : OpsY E fn ops (i :: rest) Q σ a w :=
  opsY_callR hcall ho hw hop hargs (fun _ _ _ p => by obtain ⟨rfl, rfl, rfl⟩ := p; exact h)
theorem callTo_of {f : FuncId} {fnc : Func} {c : Code} {args : Array Value} {σ' : S} {v : Value} {w' : World} (hf : P.funcs[f]? = some fnc) (hname : (fnc.name == "runtime.NumGoroutine") = false) (hb : fnc.body = some c)
    (h : CodeY E f c (bodyY P fnc (retY fun s x u => s = σ' ∧ x = v ∧ u = w')) σ { tmps := args ++ Array.replicate (fnc.ntmps - args.size) undef, defers := [] } w) : CallTo E f args σ w σ' v w' := callY_of hf hname hb h
theorem callR_of {f : FuncId} {fnc : Func} {c : Code} {args : Array Value} {R : S → Value → World → Prop} (hf : P.funcs[f]? = some fnc) (hname : (fnc.name == "runtime.NumGoroutine") = false) (hb : fnc.body = some c)
    (h : CodeY E f c (bodyY P fnc (retY R)) σ { tmps := args ++ Array.replicate (fnc.ntmps - args.size) undef, defers := [] } w) : CallR E f args σ w R := callY_of hf hname hb h
theorem callR_mono {f : FuncId} {args : Array Value} {R R' : S → Value → World → Prop} (h : CallR E f args σ w R) (hr : ∀ σ v w, R σ v w → R' σ v w) : CallR E f args σ w R' :=
  CallY.mono h fun σ e w p => by cases e with
    | returned v => exact hr _ _ _ p
    | _ => exact p.elim
theorem CallTo.r {f : FuncId} {args : Array Value} {σ' : S} {v : Value} {w' : World} {R : S → Value → World → Prop} (h : CallTo E f args σ w σ' v w') (hr : R σ' v w') : CallR E f args σ w R :=
  callR_mono h fun _ _ _ p => by obtain ⟨rfl, rfl, rfl⟩ := p; exact hr
/-! ### results -/
theorem results_0 {fn : Func} {tmps : Array Value} (h : fn.results = #[]) : (results fn tmps).run P w = .ok (.tuple #[]) w := results_none h tmps P w
theorem results_1 {fn : Func} {tmps : Array Value} {r : Nat} (h : fn.results = #[.tmp r]) : (results fn tmps).run P w = .ok (tmps.getD r undef) w := by
  simp [results, h]
theorem results_2 {fn : Func} {tmps : Array Value} {r s : Nat} (h : fn.results = #[.tmp r, .tmp s]) : (results fn tmps).run P w = .ok (.tuple #[tmps.getD r undef, tmps.getD s undef]) w := by
  simp [results, h]
theorem results_3 {fn : Func} {tmps : Array Value} {r s t : Nat} (h : fn.results = #[.tmp r, .tmp s, .tmp t]) : (results fn tmps).run P w = .ok (.tuple #[tmps.getD r undef, tmps.getD s undef, tmps.getD t undef]) w := by
  simp [results, h]
/-! ### conversions -/
theorem opsY_here {v : Value} (ho : ops[i]? = some o) (hw : Region.wanted o (yielded ops a.tmps) = true) (hr : ∀ d, (execOp a.eval o).run P (w.at d) = .ok (.value v) (w.at d)) (he : ∀ d, (execOp a.eval o).events P (w.at d) #[] = #[])
    (h : OpsY E fn ops rest Q σ (a.put o.dst v) w) : OpsY E fn ops (i :: rest) Q σ a w := fun b k cs hb hk hc =>
  E.step rfl fun d => ⟨_, w.at d, #[], by
    rw [stepG_value ho hw hk (hr d)]
    have : listed P b.fn a o (w.at d) = #[] := by unfold listed; rw [he, seen_none]
    rw [this], .refl _ _, .inl noMark_nil, by rw [E.after_nm σ #[] noMark_nil]; exact E.rel (h b k cs hb hk hc) d⟩
theorem opsY_unsafe {dst : Option Tmp} {ty : TypeId} {pos : String} {af : Array Edge} {gu : Option (Nat × Bool)} {s d t : TypeId} {x : Operand} {ad : Addr} {v : Value} (hs : P.underlying s = some (.pointer t)) (hd : P.underlying d = some .unsafePointer) (hsz : (P.info? t).map (fun i => decide (i.size = 0)) = some false)
    (hc : w.cell? ad = some v) (ho : ops[i]? = some ⟨dst, .convert s d x, ty, pos, af, gu⟩) (hw : Region.wanted ⟨dst, .convert s d x, ty, pos, af, gu⟩ (yielded ops a.tmps) = true) (hx : a.eval x = .pointer (some ad))
    (h : OpsY E fn ops rest Q σ (a.put dst (.pointer (some ad))) w) : OpsY E fn ops (i :: rest) Q σ a w :=
  opsY_here (v := .pointer (some ad)) ho hw (fun e => by simp [execOp, hx, run_convert_to_unsafe (P := P) (w := w.at e) hs hd hsz hc]) (fun e => by simp [execOp, hx, run_convert_to_unsafe (P := P) (w := w.at e) hs hd hsz hc, events_convert_to_unsafe (P := P) (w := w.at e) hs hd hsz hc]) h
theorem opsY_convInt {dst : Option Tmp} {ty : TypeId} {pos : String} {af : Array Edge} {gu : Option (Nat × Bool)} {s d : TypeId} {x : Operand} {k q : IntKind} {n : Int} (hs : (P.underlying s).isSome = true) (hd : P.underlying d = some (.int q))
    (ho : ops[i]? = some ⟨dst, .convert s d x, ty, pos, af, gu⟩) (hw : Region.wanted ⟨dst, .convert s d x, ty, pos, af, gu⟩ (yielded ops a.tmps) = true) (hx : a.eval x = .int k n)
    (h : OpsY E fn ops rest Q σ (a.put dst (.int q (q.wrap n))) w) : OpsY E fn ops (i :: rest) Q σ a w := by
  have hq : P.intKind d = q := by simp [Program.intKind, hd]
  have hd' : P.underlying d = some (.int (P.intKind d)) := by rw [hq]; exact hd
  exact opsY_here (v := .int q (q.wrap n)) ho hw (fun e => by simp [execOp, hx, run_convert_int _ _ _ _ _ hs hd', hq]) (fun e => by simp [execOp, hx, run_convert_int _ _ _ _ _ hs hd', events_convert_int _ _ _ _ hs hd']) h
/-! ### deferred calls, exactly -/
def CallDTo (E : Eng P S) (f : FuncId) (args : Array Value) (σ : S) (w : World) (σ' : S) (w' : World) : Prop := CallDY E f args (fun s u => s = σ' ∧ u = w') σ w
theorem callDTo_of {f : FuncId} {fnc : Func} {c : Code} {args : Array Value} {σ' : S} {w' : World} (hf : P.funcs[f]? = some fnc) (hname : (fnc.name == "runtime.NumGoroutine") = false) (hb : fnc.body = some c) (hr : fnc.results = #[])
    (h : CodeY E f c (bodyDY (fun s u => s = σ' ∧ u = w')) σ { tmps := args ++ Array.replicate (fnc.ntmps - args.size) undef, defers := [] } w) : CallDTo E f args σ w σ' w' := callDY_of hf hname hb hr h
theorem callToL_of {f : FuncId} {fnc : Func} {c : Code} {args : Array Value} {σ' : S} {v : Value} {w' : World} (hf : P.funcs[f]? = some fnc) (hname : (fnc.name == "runtime.NumGoroutine") = false) (hb : fnc.body = some c)
    (h : CodeY E f c (bodyLY E f (retY fun s x u => s = σ' ∧ x = v ∧ u = w')) σ { tmps := args ++ Array.replicate (fnc.ntmps - args.size) undef, defers := [] } w) : CallTo E f args σ w σ' v w' := callY_ofL hf hname hb h
theorem leavesY_deferTo {f g : FuncId} {args : Array Value} {ds : List Deferred} {Post : S → Ending → World → Prop} {σ' : S} {w' : World} (hg : CallDTo E g args σ w σ' w') (hd : a.defers = dcall g args :: ds)
    (h : LeavesY E f Post σ' ⟨a.tmps, ds⟩ w') : LeavesY E f Post σ a w := leavesY_defer hd hg (fun _ _ p => by obtain ⟨rfl, rfl⟩ := p; exact h)
/-! ### a store of several cells -/
theorem add_at (b o i : Nat) : (⟨b, o, none⟩ : Addr).add i = ⟨b, o + i, none⟩ := by unfold Addr.add; split <;> simp_all
theorem storeCells_events (b o : Nat) : ∀ (vs : List Value) (i : Nat) (w : World) (es : Array Event), (∀ j, j < vs.length → (w.cell? ⟨b, o + i + j, none⟩).isSome = true) → (∀ j, j < vs.length → w.frozen? ⟨b, o + i + j, none⟩ = false) → (∀ v ∈ vs, v.oneCell' = true) →
    ∀ e ∈ (storeCells ⟨b, o, none⟩ vs i).events P w es, e ∈ es ∨ ∃ j, e.loc = .cell ⟨b, j, none⟩
  | [], _, _, _, _, _, _ => fun e h => .inl (by simpa [storeCells] using h)
  | v :: vs, i, w, es, hc, hf, h1 => fun e h => by
    obtain ⟨u, hu⟩ := Option.isSome_iff_exists.1 (by simpa using hc 0 (by simp))
    have hz : w.frozen? ⟨b, o + i, none⟩ = false := by exact hf 0 (by simp)
    have hv := h1 v (by simp)
    simp only [storeCells, add_at] at h
    simp only [Sem.events_bind, run_store P w _ v .plain hv, events_store P w es _ v .plain hv, stored, hu, hz, Option.isSome_some, Bool.not_false, Bool.and_self, if_true, Bool.false_eq_true, if_false, Result.evThen] at h
    have := storeCells_events b o vs (i + 1) (w.setCell ⟨b, o + i, none⟩ v) _ (fun j hj => by
      obtain ⟨x, hx⟩ := Option.isSome_iff_exists.1 (hc (j + 1) (by simpa using hj))
      rw [World.cell?_setCell_other _ _ _ _ (by first | (simp; done) | (simp; omega))]
      rw [show o + (i + 1) + j = o + i + (j + 1) by omega, hx, Option.isSome_some]) (fun j hj => by rw [World.frozen?_setCell, show o + (i + 1) + j = o + i + (j + 1) by omega]; exact hf (j + 1) (by simpa using hj)) (fun x hx => h1 x (by simp [hx])) e h
    rcases this with hh | hh
    · rcases Array.mem_push.1 hh with hh | rfl
      · exact .inl hh
      · exact .inr ⟨_, rfl⟩
    · exact .inr hh
theorem setCells_ok {St : Addr → Prop} {b : Nat} (hs : ∀ o, ¬ St ⟨b, o, none⟩) : ∀ (vs : List Value) (o : Nat) (w : World) (es : Array Event), b < w.heap.size → (∀ e ∈ es, ∃ j, e.loc = .cell ⟨b, j, none⟩) → Ok St w (w.setCells b o vs) es
  | [], o, w, es, hb, he => ⟨fun e hm a hl _ => (by obtain ⟨j, hj⟩ := he e hm; rw [hj] at hl; obtain rfl := Loc.cell.inj hl; exact hs j), fun e hm m hl => (by obtain ⟨j, hj⟩ := he e hm; rw [hj] at hl; cases hl), fun _ _ _ => ⟨rfl, rfl⟩, fun _ _ _ _ _ _ _ _ => rfl, fun e hm => (by obtain ⟨j, hj⟩ := he e hm; exact low_at hj hb), Nat.le_refl _⟩
  | v :: vs, o, w, es, hb, he => by
    have h1 : Ok St w (w.setCell ⟨b, o, none⟩ v) #[] := .set (hs o) hb (by simp)
    have h2 := setCells_ok hs vs (o + 1) (w.setCell ⟨b, o, none⟩ v) es (by rw [size_set]; exact hb) he
    refine ⟨h2.ev, h2.mute, fun a ha hsome => ?_, fun c cap buf cl s r tm hc => ?_, h2.low, Nat.le_trans h1.grow h2.grow⟩
    · obtain ⟨x1, x2⟩ := h1.cell a ha hsome
      obtain ⟨y1, y2⟩ := h2.cell a ha (by rw [x1]; exact hsome)
      exact ⟨y1.trans x1, y2.trans x2⟩
    · have x := h1.chan c cap buf cl s r tm hc
      exact (h2.chan c cap buf cl s r tm (x.trans hc)).trans x
theorem storeOp_many {t : TypeId} {x y : Operand} {b o : Nat} {v : Value} {dst : Option Tmp} {ty : TypeId} {pos : String} {af : Array Edge} {gu : Option (Nat × Bool)}
    (hsz : (P.info? t).map (·.size) = some v.cells.size) (hx : a.eval x = .pointer (some ⟨b, o, none⟩)) (hy : a.eval y = v) (hv1 : ∀ u ∈ v.cells.toList, u.oneCell' = true)
    (hc : ∀ j, j < v.cells.size → (w.cell? ⟨b, o + j, none⟩).isSome = true) (hz : ∀ j, j < v.cells.size → w.frozen? ⟨b, o + j, none⟩ = false) :
    (execOp a.eval ⟨dst, .store t x y, ty, pos, af, gu⟩).run P w = .ok .skip (w.setCells b o v.cells.toList) ∧ ∀ e ∈ (execOp a.eval ⟨dst, .store t x y, ty, pos, af, gu⟩).events P w #[], ∃ j, e.loc = .cell ⟨b, j, none⟩ := by
  obtain ⟨inf, hinf, hz1⟩ := Option.map_eq_some_iff.1 hsz
  have hti : (typeInfo t).run P w = .ok inf w := by simp [typeInfo, hinf]
  have hso : (sizeOf t).run P w = .ok v.cells.size w := by simp [sizeOf, hti, hz1]
  have hrs := run_storeCells_cells (P := P) b o v.cells.toList 0 w (fun j hj => by simpa using hc j (by simpa using hj)) (fun j hj => by simpa using hz j (by simpa using hj)) hv1
  have hes := fun es => storeCells_events (P := P) b o v.cells.toList 0 w es (fun j hj => by simpa using hc j (by simpa using hj)) (fun j hj => by simpa using hz j (by simpa using hj)) hv1
  have hti' : (sizeOf t).events P w #[] = #[] := by simp [sizeOf, typeInfo, hinf]
  subst hy
  constructor
  · simp only [execOp, Instr.storeAt, Instr.sureAddr, hx]
    simp [storeVar, hso, hrs]
  · intro e he
    simp only [execOp, Instr.storeAt, Instr.sureAddr, hx] at he
    simp [storeVar, hso, hrs, hti'] at he
    exact (hes _ e he).elim (fun z => by simp at z) id
/-- A store of several cells. -/
theorem opsY_storeN {t : TypeId} {x y : Operand} {b o : Nat} {v : Value} {vs : List Value} {dst : Option Tmp} {ty : TypeId} {pos : String} {af : Array Edge} {gu : Option (Nat × Bool)} (ho : ops[i]? = some ⟨dst, .store t x y, ty, pos, af, gu⟩) (hw : Region.wanted ⟨dst, .store t x y, ty, pos, af, gu⟩ (yielded ops a.tmps) = true)
    (hblt : b < w.heap.size) (hx : a.eval x = .pointer (some ⟨b, o, none⟩)) (hy : a.eval y = v) (hvs : v.cells = vs.toArray) (hsz : (P.info? t).map (·.size) = some vs.length) (hv1 : ∀ u ∈ vs, u.oneCell' = true)
    (hc : ∀ j, j < vs.length → (w.cell? ⟨b, o + j, none⟩).isSome = true) (hz : ∀ j, j < vs.length → w.frozen? ⟨b, o + j, none⟩ = false)
    (hs : ∀ o, ¬ E.still σ ⟨b, o, none⟩) (h : OpsY E fn ops rest Q σ (a.put dst undef) (w.setCells b o vs)) : OpsY E fn ops (i :: rest) Q σ a w := by
  have hl : v.cells.toList = vs := by rw [hvs]
  have hsize : v.cells.size = vs.length := by rw [hvs]; simp
  obtain ⟨h1, h2⟩ := storeOp_many (P := P) (w := w) (dst := dst) (ty := ty) (pos := pos) (af := af) (gu := gu) (by rw [hsize]; exact hsz) hx hy (by rw [hl]; exact hv1) (by rw [hsize]; exact hc) (by rw [hsize]; exact hz)
  rw [hl] at h1
  have hd : ∀ (vs : List Value) (o : Nat) (w : World), (w.setCells b o vs).drawn = w.drawn := by
    intro vs
    induction vs with
    | nil => intro o w; rfl
    | cons v vs ih => intro o w; exact ih (o + 1) (w.setCell ⟨b, o, none⟩ v)
  exact opsY_none ho hw ns_storeOp (w' := w.setCells b o vs) (by rw [Sem.runT_eq, h1]) (hd _ _ _) (setCells_ok hs _ _ _ _ hblt h2) (fun e he m hl => by obtain ⟨j, hj⟩ := h2 e he; rw [hj] at hl; cases hl) h
/-- A store of two cells. -/
theorem opsY_store2 {t : TypeId} {x y : Operand} {b o : Nat} {v0 v1 u0 u1 : Value} {dst : Option Tmp} {ty : TypeId} {pos : String} {af : Array Edge} {gu : Option (Nat × Bool)} (ho : ops[i]? = some ⟨dst, .store t x y, ty, pos, af, gu⟩) (hw : Region.wanted ⟨dst, .store t x y, ty, pos, af, gu⟩ (yielded ops a.tmps) = true)
    (hx : a.eval x = .pointer (some ⟨b, o, none⟩)) (hy : a.eval y = .agg #[v0, v1]) (hsz : (P.info? t).map (·.size) = some 2) (hv0 : v0.oneCell' = true) (hv1 : v1.oneCell' = true)
    (h0 : w.cell? ⟨b, o, none⟩ = some u0) (h1 : w.cell? ⟨b, o + 1, none⟩ = some u1) (hz : ∀ o, w.frozen? ⟨b, o, none⟩ = false)
    (hs : ∀ o, ¬ E.still σ ⟨b, o, none⟩) (h : OpsY E fn ops rest Q σ (a.put dst undef) ((w.setCell ⟨b, o, none⟩ v0).setCell ⟨b, o + 1, none⟩ v1)) : OpsY E fn ops (i :: rest) Q σ a w :=
  opsY_storeN (vs := [v0, v1]) ho hw (World.block_lt_of_cell? _ _ h0) hx hy rfl hsz (fun u hu => by simp at hu; rcases hu with rfl | rfl <;> assumption)
    (fun j hj => by
      have : j = 0 ∨ j = 1 := by simp at hj; omega
      rcases this with rfl | rfl
      · simp [h0]
      · simp [h1]) (fun j hj => hz _) hs h
end
end Go.Proofs.Ythnfheohfnhcpaa.Y
