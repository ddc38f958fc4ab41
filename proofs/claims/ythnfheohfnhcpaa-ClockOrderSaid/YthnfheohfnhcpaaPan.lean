/- Contracts of calls that may also be broken off: by a panic that passes through. -/
import Derived.Test.YthnfheohfnhcpaaDrw
set_option linter.unusedSimpArgs false
set_option linter.unusedVariables false
namespace Go.Proofs.Ythnfheohfnhcpaa.Y
open Go Go.Conc
section
variable {P : Program} {S : Type} {E : Eng P S} {fn : FuncId} {ops : Array Oper} {Q : S → Exit → Act → World → Prop} {σ : S} {a : Act} {w : World} {i : Nat} {rest : List Nat} {o : Oper}
/-- Returned, so; or broken off, so. -/
def retP (pan : S → List PanicEntry → World → Prop) (R : S → Value → World → Prop) : S → Ending → World → Prop
  | σ, .returned v, w => R σ v w
  | σ, .panicked ch, w => pan σ ch w
  | _, _, _ => False
def CallP (E : Eng P S) (pan : S → List PanicEntry → World → Prop) (f : FuncId) (args : Array Value) (σ : S) (w : World) (R : S → Value → World → Prop) : Prop := CallY E f args (retP pan R) σ w
variable {pan : S → List PanicEntry → World → Prop}
theorem CallR.p {f : FuncId} {args : Array Value} {R : S → Value → World → Prop} (h : CallR E f args σ w R) : CallP E pan f args σ w R :=
  CallY.mono h fun σ e w p => by cases e with
    | returned v => exact p
    | _ => exact p.elim
theorem CallTo.p {f : FuncId} {args : Array Value} {σ' : S} {v : Value} {w' : World} {R : S → Value → World → Prop} (h : CallTo E f args σ w σ' v w') (hr : R σ' v w') : CallP E pan f args σ w R := CallR.p (h.r hr)
theorem CallP.r {f : FuncId} {args : Array Value} {R : S → Value → World → Prop} (h : CallP E (fun _ _ _ => False) f args σ w R) : CallR E f args σ w R :=
  CallY.mono h fun σ e w p => by cases e with
    | returned v => exact p
    | panicked ch => exact p.elim
    | _ => exact p.elim
theorem CallP.mono {f : FuncId} {args : Array Value} {R R' : S → Value → World → Prop} (h : CallP E pan f args σ w R) (hr : ∀ σ v w, R σ v w → R' σ v w) : CallP E pan f args σ w R' :=
  CallY.mono h fun σ e w p => by cases e with
    | returned v => exact hr _ _ _ p
    | panicked ch => exact p
    | _ => exact p.elim
theorem callP_of {f : FuncId} {fnc : Func} {c : Code} {args : Array Value} {R : S → Value → World → Prop} (hf : P.funcs[f]? = some fnc) (hname : (fnc.name == "runtime.NumGoroutine") = false) (hb : fnc.body = some c)
    (h : CodeY E f c (bodyY P fnc (retP pan R)) σ { tmps := args ++ Array.replicate (fnc.ntmps - args.size) undef, defers := [] } w) : CallP E pan f args σ w R := callY_of hf hname hb h
theorem opsY_callP {f : FuncId} {args : Array Operand} {ats : Array TypeId} {as : Array Value} {R : S → Value → World → Prop} (hcall : CallP E pan f as σ w R) (ho : ops[i]? = some o) (hw : Region.wanted o (yielded ops a.tmps) = true)
    (hop : o.op = .call { callee := .value (.func f), args, argTypes := ats }) (hargs : args.map a.eval = as) (hpan : ∀ σ' ch w', pan σ' ch w' → Q σ' (.panic ch) a w') (h : ∀ σ' v w', R σ' v w' → OpsY E fn ops rest Q σ' (a.put o.dst v) w') : OpsY E fn ops (i :: rest) Q σ a w := by
  subst hargs
  exact opsY_call ho hw hop hcall (fun σ' v w' p => h σ' v w' p) (fun σ' ch w' p => hpan σ' ch w' p)
/-- Through a call of a function value. -/
theorem opsY_callvP {f : FuncId} {x : Operand} {first captured : Array Value} {args : Array Operand} {ats : Array TypeId} {as : Array Value} {R : S → Value → World → Prop} (hcall : CallP E pan f as σ w R) (ho : ops[i]? = some o) (hw : Region.wanted o (yielded ops a.tmps) = true)
    (hop : o.op = .call { callee := .value x, args, argTypes := ats }) (hx : a.eval x = .func (.func f) first captured) (hargs : first ++ args.map a.eval ++ captured = as) (hpan : ∀ σ' ch w', pan σ' ch w' → Q σ' (.panic ch) a w') (h : ∀ σ' v w', R σ' v w' → OpsY E fn ops rest Q σ' (a.put o.dst v) w') : OpsY E fn ops (i :: rest) Q σ a w := by
  subst hargs
  exact opsY_callv ho hw hop hx hcall (fun σ' v w' p => h σ' v w' p) (fun σ' ch w' p => hpan σ' ch w' p)
/-- A call that comes up in a region that draws its order, and may be broken off. -/
theorem opY_callP {i : Nat} {o : Oper} {f : FuncId} {args : Array Operand} {ats : Array TypeId} {as : Array Value} {R : S → Value → World → Prop} {K : S → Act → World → Prop} {σ : S} {a : Act} {w : World} (hcall : CallP E pan f as σ w R) (ho : ops[i]? = some o) (hw : Region.wanted o (yielded ops a.tmps) = true)
    (hop : o.op = .call { callee := .value (.func f), args, argTypes := ats }) (hargs : args.map a.eval = as) (hpan : ∀ σ' ch w' a', pan σ' ch w' → a'.defers = a.defers → Q σ' (.panic ch) a' w') (h : ∀ σ' v w', R σ' v w' → K σ' (a.put o.dst v) w') : OpY E Q ops i K σ a w := by
  subst hargs
  unfold OpY
  simp only [ho, hw, if_true]
  obtain ⟨fnc, hf, hname, hbody⟩ := hcall.has
  refine .inr (.inr (.inr (.inr ⟨f, args.map a.eval, retP pan R, fun u => ?_, hcall, hpan, h⟩)))
  have := run_callv (a := a) (first := #[]) (captured := #[]) hop rfl hf hname hbody u
  simpa using this
end
end Go.Proofs.Ythnfheohfnhcpaa.Y
