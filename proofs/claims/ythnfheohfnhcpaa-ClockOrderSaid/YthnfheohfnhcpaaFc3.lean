/- The closed facts of the row of clockOrder, one by one. -/
import Derived.Test.YthnfheohfnhcpaaRows
import Derived.JoinedOf
import Derived.KernelRfl
set_option linter.unusedVariables false
namespace Go.Proofs.Ythnfheohfnhcpaa
open Go
theorem clockOrderFact0 : (fun (P : Program) (f : FuncId) (fn : Func) (s : ChangeSpec) (c : OpenClaim) => (c.wf (OpenSpec.ofChange s) : Bool)) Try.prog 4 Try.f4 Rows.clockOrderSpec Rows.clockOrderRow = true := by kernel_rfl
theorem clockOrderFact1 : (fun (P : Program) (f : FuncId) (fn : Func) (s : ChangeSpec) (c : OpenClaim) => (laidOutB P : Bool)) Try.prog 4 Try.f4 Rows.clockOrderSpec Rows.clockOrderRow = true := by kernel_rfl
theorem clockOrderFact2 : (fun (P : Program) (f : FuncId) (fn : Func) (s : ChangeSpec) (c : OpenClaim) => (mapsRowed P : Bool)) Try.prog 4 Try.f4 Rows.clockOrderSpec Rows.clockOrderRow = true := by kernel_rfl
theorem clockOrderFact3 : (fun (P : Program) (f : FuncId) (fn : Func) (s : ChangeSpec) (c : OpenClaim) => (fn.params.all (P.readableRec ·) : Bool)) Try.prog 4 Try.f4 Rows.clockOrderSpec Rows.clockOrderRow = true := by kernel_rfl
theorem clockOrderFact4 : (fun (P : Program) (f : FuncId) (fn : Func) (s : ChangeSpec) (c : OpenClaim) => (namedTie P c.named s.vars : Bool)) Try.prog 4 Try.f4 Rows.clockOrderSpec Rows.clockOrderRow = true := by kernel_rfl
theorem clockOrderFact5 : (fun (P : Program) (f : FuncId) (fn : Func) (s : ChangeSpec) (c : OpenClaim) => ((c.stops == []) : Bool)) Try.prog 4 Try.f4 Rows.clockOrderSpec Rows.clockOrderRow = true := by kernel_rfl
theorem clockOrderFact6 : (fun (P : Program) (f : FuncId) (fn : Func) (s : ChangeSpec) (c : OpenClaim) => ((P.stops == []) : Bool)) Try.prog 4 Try.f4 Rows.clockOrderSpec Rows.clockOrderRow = true := by kernel_rfl
theorem clockOrderFact7 : (fun (P : Program) (f : FuncId) (fn : Func) (s : ChangeSpec) (c : OpenClaim) => ((c.knobs == []) : Bool)) Try.prog 4 Try.f4 Rows.clockOrderSpec Rows.clockOrderRow = true := by kernel_rfl
theorem clockOrderFact8 : (fun (P : Program) (f : FuncId) (fn : Func) (s : ChangeSpec) (c : OpenClaim) => ((P.stopKnobs == []) : Bool)) Try.prog 4 Try.f4 Rows.clockOrderSpec Rows.clockOrderRow = true := by kernel_rfl
theorem clockOrderFact9 : (fun (P : Program) (f : FuncId) (fn : Func) (s : ChangeSpec) (c : OpenClaim) => ((c.inPlace == P.inPlace f) : Bool)) Try.prog 4 Try.f4 Rows.clockOrderSpec Rows.clockOrderRow = true := by kernel_rfl
theorem clockOrderFact10 : (fun (P : Program) (f : FuncId) (fn : Func) (s : ChangeSpec) (c : OpenClaim) => ((c.unfollowed == P.unfollowed f) : Bool)) Try.prog 4 Try.f4 Rows.clockOrderSpec Rows.clockOrderRow = true := by kernel_rfl
theorem clockOrderFact11 : (fun (P : Program) (f : FuncId) (fn : Func) (s : ChangeSpec) (c : OpenClaim) => ((c.recurses == P.recurses f) : Bool)) Try.prog 4 Try.f4 Rows.clockOrderSpec Rows.clockOrderRow = true := by kernel_rfl
theorem clockOrderFact12 : (fun (P : Program) (f : FuncId) (fn : Func) (s : ChangeSpec) (c : OpenClaim) => ((c.named == P.varsNamed f) : Bool)) Try.prog 4 Try.f4 Rows.clockOrderSpec Rows.clockOrderRow = true := by kernel_rfl
theorem clockOrderFact13 : (fun (P : Program) (f : FuncId) (fn : Func) (s : ChangeSpec) (c : OpenClaim) => ((c.maps == (fn.params.toList ++ s.plain.varTypes P).any (P.mapsRec ·)) : Bool)) Try.prog 4 Try.f4 Rows.clockOrderSpec Rows.clockOrderRow = true := by kernel_rfl
theorem clockOrderFact14 : (fun (P : Program) (f : FuncId) (fn : Func) (s : ChangeSpec) (c : OpenClaim) => ((c.ifaces == (fn.params.toList ++ s.plain.varTypes P).any (P.ifacesRec ·)) : Bool)) Try.prog 4 Try.f4 Rows.clockOrderSpec Rows.clockOrderRow = true := by kernel_rfl
theorem clockOrderFact15 : (fun (P : Program) (f : FuncId) (fn : Func) (s : ChangeSpec) (c : OpenClaim) => ((c.mapsOut == P.mapsAmong fn.resultTypes.toList) : Bool)) Try.prog 4 Try.f4 Rows.clockOrderSpec Rows.clockOrderRow = true := by kernel_rfl
theorem clockOrderFact16 : (fun (P : Program) (f : FuncId) (fn : Func) (s : ChangeSpec) (c : OpenClaim) => ((c.loops == (fn.params.toList ++ s.plain.varTypes P).any (P.loopsFrom ·)) : Bool)) Try.prog 4 Try.f4 Rows.clockOrderSpec Rows.clockOrderRow = true := by kernel_rfl
theorem clockOrderFact17 : (fun (P : Program) (f : FuncId) (fn : Func) (s : ChangeSpec) (c : OpenClaim) => ((c.wideKeys == (fn.params.toList ++ s.plain.varTypes P ++ fn.resultTypes.toList).any (P.wideKeysFrom ·)) : Bool)) Try.prog 4 Try.f4 Rows.clockOrderSpec Rows.clockOrderRow = true := by kernel_rfl
theorem clockOrderFact18 : (fun (P : Program) (f : FuncId) (fn : Func) (s : ChangeSpec) (c : OpenClaim) => (s.vars.all (P.varReadable ·) : Bool)) Try.prog 4 Try.f4 Rows.clockOrderSpec Rows.clockOrderRow = true := by kernel_rfl
theorem clockOrderFact19 : (fun (P : Program) (f : FuncId) (fn : Func) (s : ChangeSpec) (c : OpenClaim) => (fn.resultTypes.all (fun t => P.readableRec t && decide (t < P.types.size)) : Bool)) Try.prog 4 Try.f4 Rows.clockOrderSpec Rows.clockOrderRow = true := by kernel_rfl
theorem clockOrderFact20 : (fun (P : Program) (f : FuncId) (fn : Func) (s : ChangeSpec) (c : OpenClaim) => ((c.ifacesOut == fn.resultTypes.toList.any (P.ifacesRec ·)) : Bool)) Try.prog 4 Try.f4 Rows.clockOrderSpec Rows.clockOrderRow = true := by kernel_rfl
theorem clockOrderFact21 : (fun (P : Program) (f : FuncId) (fn : Func) (s : ChangeSpec) (c : OpenClaim) => ((c.loopsOut == fn.resultTypes.toList.any (P.loopsFrom ·)) : Bool)) Try.prog 4 Try.f4 Rows.clockOrderSpec Rows.clockOrderRow = true := by kernel_rfl
theorem clockOrderFact22 : (fun (P : Program) (f : FuncId) (fn : Func) (s : ChangeSpec) (c : OpenClaim) => ((c.plainKeys == P.plainKeys) : Bool)) Try.prog 4 Try.f4 Rows.clockOrderSpec Rows.clockOrderRow = true := by kernel_rfl
theorem clockOrderFact23 : (fun (P : Program) (f : FuncId) (fn : Func) (s : ChangeSpec) (c : OpenClaim) => (c.shortTexts.isNone : Bool)) Try.prog 4 Try.f4 Rows.clockOrderSpec Rows.clockOrderRow = true := by kernel_rfl
theorem clockOrderFact24 : (fun (P : Program) (f : FuncId) (fn : Func) (s : ChangeSpec) (c : OpenClaim) => (P.stopsHeard : Bool)) Try.prog 4 Try.f4 Rows.clockOrderSpec Rows.clockOrderRow = true := by kernel_rfl
theorem clockOrderFact25 : (fun (P : Program) (f : FuncId) (fn : Func) (s : ChangeSpec) (c : OpenClaim) => (P.mayEnter : Bool)) Try.prog 4 Try.f4 Rows.clockOrderSpec Rows.clockOrderRow = true := by kernel_rfl
theorem clockOrderFact26 : (fun (P : Program) (f : FuncId) (fn : Func) (s : ChangeSpec) (c : OpenClaim) => ((c.lifted == P.liftsFinal) : Bool)) Try.prog 4 Try.f4 Rows.clockOrderSpec Rows.clockOrderRow = true := by kernel_rfl
theorem clockOrderFact27 : (fun (P : Program) (f : FuncId) (fn : Func) (s : ChangeSpec) (c : OpenClaim) => ((P.make == some c.make) : Bool)) Try.prog 4 Try.f4 Rows.clockOrderSpec Rows.clockOrderRow = true := by kernel_rfl
theorem clockOrderFact28 : (fun (P : Program) (f : FuncId) (fn : Func) (s : ChangeSpec) (c : OpenClaim) => ((c.kinds == (if c.domain.isEmpty then [] else fn.params.toList.map fun t => match P.underlying t with | some (.int k) => some k | _ => none)) : Bool)) Try.prog 4 Try.f4 Rows.clockOrderSpec Rows.clockOrderRow = true := by kernel_rfl
theorem clockOrderFact29 : (fun (P : Program) (f : FuncId) (fn : Func) (s : ChangeSpec) (c : OpenClaim) => ((c.pinned == c.pinnedBy) : Bool)) Try.prog 4 Try.f4 Rows.clockOrderSpec Rows.clockOrderRow = true := by kernel_rfl
theorem clockOrderFact30 : (fun (P : Program) (f : FuncId) (fn : Func) (s : ChangeSpec) (c : OpenClaim) => ((c.veiled == (fn.params.toList ++ s.plain.varTypes P ++ fn.resultTypes.toList).any (P.veiledRec ·)) : Bool)) Try.prog 4 Try.f4 Rows.clockOrderSpec Rows.clockOrderRow = true := by kernel_rfl
theorem clockOrderFact31 : (fun (P : Program) (f : FuncId) (fn : Func) (s : ChangeSpec) (c : OpenClaim) => (c.veiledFits P fn.params.toList (fn.params.toList ++ s.plain.varTypes P ++ fn.resultTypes.toList) : Bool)) Try.prog 4 Try.f4 Rows.clockOrderSpec Rows.clockOrderRow = true := by kernel_rfl
end Go.Proofs.Ythnfheohfnhcpaa
