/- Which operations write nothing, kind by kind. -/
import Derived.Test.YthnfheohfnhcpaaEng
import Derived.WalkKit
set_option linter.unusedSimpArgs false
namespace Go.Proofs.Ythnfheohfnhcpaa.Y
open Go Go.Conc
variable {ρ : Operand → Value} {dst : Option Tmp} {ty : TypeId} {pos : String} {af : Array Edge} {gu : Option (Nat × Bool)}

theorem nw_program : Nw program := fun _ => trivial
theorem nw_choose (q : Question) : Nw (choose q) := fun _ => trivial
theorem nw_stuck {α : Type} (s : String) : Nw (stuck s : Sem α) := trivial
theorem nw_unsupported {α : Type} (s : Unsupported) : Nw (unsupported s : Sem α) := trivial
theorem nw_goPanic {α : Type} (v : Value) : Nw (goPanic v : Sem α) := trivial
theorem nw_shape (r : Nat) : Nw (shape r) := fun _ => trivial
theorem nw_frozen (a : Addr) : Nw (frozen a) := fun _ => trivial
theorem nw_getObj (r : Nat) : Nw (getObj r) := fun _ => trivial
theorem nw_newObj (o : Obj) : Nw (newObj o) := fun _ => trivial
theorem nw_askRoom (n : Nat) : Nw (askRoom n) := by unfold askRoom; split; exact ⟨rfl, trivial⟩; trivial
theorem nw_newRow (t : TypeId) (c : Array Value) : Nw (newRow t c) := nw_bind (nw_newObj _) fun _ => trivial
theorem nw_newVar (t : TypeId) (v : Value) : Nw (newVar t v) := nw_newRow _ _
theorem nw_zeroValue (t : TypeId) : Nw (zeroValue t) := nw_bind (nw_typeInfo t) fun _ => by split <;> trivial
theorem nw_asIntOf (v : Value) : Nw (asIntOf v) := by unfold asIntOf; split <;> trivial
theorem nw_asInt (v : Value) : Nw (asInt v) := nw_bind (nw_asIntOf v) fun _ => trivial
theorem nw_asBool (v : Value) : Nw (asBool v) := by unfold asBool; split <;> trivial
theorem nw_asAgg (v : Value) : Nw (asAgg v) := by unfold asAgg; split <;> trivial
theorem nw_boundsPanic {α : Type} (k : IntKind) (x y : Int) (c : BoundsCode) : Nw (boundsPanic k x y c : Sem α) := by
  unfold boundsPanic
  try dsimp only
  repeat' (first | exact nw_program | exact nw_choose _ | exact nw_stuck _ | exact nw_unsupported _ | exact nw_goPanic _ | exact nw_shape _ | exact nw_frozen _ | exact nw_getObj _ | exact nw_newObj _ | exact nw_askRoom _ | exact nw_newRow _ _ | exact nw_newVar _ _ | exact nw_zeroValue _ | exact nw_asIntOf _ | exact nw_asInt _ | exact nw_asBool _ | exact nw_asAgg _ | exact nw_typeInfo _ | exact nw_underlying _ | exact nw_sizeOf _ | exact nw_isAgg _ | exact nw_loadVar _ _ | exact nw_loadCells _ _ | exact nw_runtimePanic _ | exact nw_asAddr _ | exact nw_pure _ | exact nw_map (nw_choose _) | (refine nw_bind ?_ fun _ => ?_) | (dsimp only; split) | split | trivial)
theorem nw_part (t : TypeId) (cs : Array Value) (n : Nat) : Nw (part t cs n) := by
  unfold part
  repeat' (first | exact nw_program | exact nw_choose _ | exact nw_stuck _ | exact nw_unsupported _ | exact nw_goPanic _ | exact nw_shape _ | exact nw_frozen _ | exact nw_getObj _ | exact nw_newObj _ | exact nw_askRoom _ | exact nw_newRow _ _ | exact nw_newVar _ _ | exact nw_zeroValue _ | exact nw_asIntOf _ | exact nw_asInt _ | exact nw_asBool _ | exact nw_asAgg _ | exact nw_typeInfo _ | exact nw_underlying _ | exact nw_sizeOf _ | exact nw_isAgg _ | exact nw_loadVar _ _ | exact nw_loadCells _ _ | exact nw_runtimePanic _ | exact nw_asAddr _ | exact nw_pure _ | exact nw_map (nw_choose _) | (refine nw_bind ?_ fun _ => ?_) | (dsimp only; split) | split | trivial)
theorem nw_viewAt (r : Nat) : Nw (viewAt r) := by
  unfold viewAt
  try dsimp only
  repeat' (first | exact nw_program | exact nw_choose _ | exact nw_stuck _ | exact nw_unsupported _ | exact nw_goPanic _ | exact nw_shape _ | exact nw_frozen _ | exact nw_getObj _ | exact nw_newObj _ | exact nw_askRoom _ | exact nw_newRow _ _ | exact nw_newVar _ _ | exact nw_zeroValue _ | exact nw_asIntOf _ | exact nw_asInt _ | exact nw_asBool _ | exact nw_asAgg _ | exact nw_typeInfo _ | exact nw_underlying _ | exact nw_sizeOf _ | exact nw_isAgg _ | exact nw_loadVar _ _ | exact nw_loadCells _ _ | exact nw_runtimePanic _ | exact nw_asAddr _ | exact nw_pure _ | exact nw_map (nw_choose _) | (refine nw_bind ?_ fun _ => ?_) | (dsimp only; split) | split | trivial)
theorem nw_numberAt (r : Nat) : Nw (numberAt r) := by
  unfold numberAt
  try dsimp only
  repeat' (first | exact nw_program | exact nw_choose _ | exact nw_stuck _ | exact nw_unsupported _ | exact nw_goPanic _ | exact nw_shape _ | exact nw_frozen _ | exact nw_getObj _ | exact nw_newObj _ | exact nw_askRoom _ | exact nw_newRow _ _ | exact nw_newVar _ _ | exact nw_zeroValue _ | exact nw_asIntOf _ | exact nw_asInt _ | exact nw_asBool _ | exact nw_asAgg _ | exact nw_typeInfo _ | exact nw_underlying _ | exact nw_sizeOf _ | exact nw_isAgg _ | exact nw_loadVar _ _ | exact nw_loadCells _ _ | exact nw_runtimePanic _ | exact nw_asAddr _ | exact nw_pure _ | exact nw_map (nw_choose _) | (refine nw_bind ?_ fun _ => ?_) | (dsimp only; split) | split | trivial)
theorem nw_noView (a : Addr) : Nw (noView a) := by
  unfold noView
  repeat' (first | exact nw_program | exact nw_choose _ | exact nw_stuck _ | exact nw_unsupported _ | exact nw_goPanic _ | exact nw_shape _ | exact nw_frozen _ | exact nw_getObj _ | exact nw_newObj _ | exact nw_askRoom _ | exact nw_newRow _ _ | exact nw_newVar _ _ | exact nw_zeroValue _ | exact nw_asIntOf _ | exact nw_asInt _ | exact nw_asBool _ | exact nw_asAgg _ | exact nw_typeInfo _ | exact nw_underlying _ | exact nw_sizeOf _ | exact nw_isAgg _ | exact nw_loadVar _ _ | exact nw_loadCells _ _ | exact nw_runtimePanic _ | exact nw_asAddr _ | exact nw_pure _ | exact nw_map (nw_choose _) | exact nw_viewAt _ | (refine nw_bind ?_ fun _ => ?_) | (dsimp only; split) | split | trivial)
theorem nw_stringish (a : Addr) : Nw (stringish a) := by
  unfold stringish
  try dsimp only
  repeat' (first | exact nw_program | exact nw_choose _ | exact nw_stuck _ | exact nw_unsupported _ | exact nw_goPanic _ | exact nw_shape _ | exact nw_frozen _ | exact nw_getObj _ | exact nw_newObj _ | exact nw_askRoom _ | exact nw_newRow _ _ | exact nw_newVar _ _ | exact nw_zeroValue _ | exact nw_asIntOf _ | exact nw_asInt _ | exact nw_asBool _ | exact nw_asAgg _ | exact nw_typeInfo _ | exact nw_underlying _ | exact nw_sizeOf _ | exact nw_isAgg _ | exact nw_loadVar _ _ | exact nw_loadCells _ _ | exact nw_runtimePanic _ | exact nw_asAddr _ | exact nw_pure _ | exact nw_map (nw_choose _) | (refine nw_bind ?_ fun _ => ?_) | (dsimp only; split) | split | trivial)
theorem nw_mayBeOne (a b : Addr) : Nw (mayBeOne a b) := by
  unfold mayBeOne
  try dsimp only
  repeat' (first | exact nw_program | exact nw_choose _ | exact nw_stuck _ | exact nw_unsupported _ | exact nw_goPanic _ | exact nw_shape _ | exact nw_frozen _ | exact nw_getObj _ | exact nw_newObj _ | exact nw_askRoom _ | exact nw_newRow _ _ | exact nw_newVar _ _ | exact nw_zeroValue _ | exact nw_asIntOf _ | exact nw_asInt _ | exact nw_asBool _ | exact nw_asAgg _ | exact nw_typeInfo _ | exact nw_underlying _ | exact nw_sizeOf _ | exact nw_isAgg _ | exact nw_loadVar _ _ | exact nw_loadCells _ _ | exact nw_runtimePanic _ | exact nw_asAddr _ | exact nw_pure _ | exact nw_map (nw_choose _) | exact nw_stringish _ | (refine nw_bind ?_ fun _ => ?_) | (dsimp only; split) | split | trivial)
theorem nw_sameAddr (a b : Addr) : Nw (sameAddr a b) := by
  unfold sameAddr
  try dsimp only
  repeat' (first | exact nw_program | exact nw_choose _ | exact nw_stuck _ | exact nw_unsupported _ | exact nw_goPanic _ | exact nw_shape _ | exact nw_frozen _ | exact nw_getObj _ | exact nw_newObj _ | exact nw_askRoom _ | exact nw_newRow _ _ | exact nw_newVar _ _ | exact nw_zeroValue _ | exact nw_asIntOf _ | exact nw_asInt _ | exact nw_asBool _ | exact nw_asAgg _ | exact nw_typeInfo _ | exact nw_underlying _ | exact nw_sizeOf _ | exact nw_isAgg _ | exact nw_loadVar _ _ | exact nw_loadCells _ _ | exact nw_runtimePanic _ | exact nw_asAddr _ | exact nw_pure _ | exact nw_map (nw_choose _) | exact nw_noView _ | exact nw_mayBeOne _ _ | (refine nw_bind ?_ fun _ => ?_) | (dsimp only; split) | split | trivial)
theorem nw_behindNumber (a : Addr) : Nw (behindNumber a) := by
  unfold behindNumber
  repeat' (first | exact nw_program | exact nw_choose _ | exact nw_stuck _ | exact nw_unsupported _ | exact nw_goPanic _ | exact nw_shape _ | exact nw_frozen _ | exact nw_getObj _ | exact nw_newObj _ | exact nw_askRoom _ | exact nw_newRow _ _ | exact nw_newVar _ _ | exact nw_zeroValue _ | exact nw_asIntOf _ | exact nw_asInt _ | exact nw_asBool _ | exact nw_asAgg _ | exact nw_typeInfo _ | exact nw_underlying _ | exact nw_sizeOf _ | exact nw_isAgg _ | exact nw_loadVar _ _ | exact nw_loadCells _ _ | exact nw_runtimePanic _ | exact nw_asAddr _ | exact nw_pure _ | exact nw_map (nw_choose _) | exact nw_numberAt _ | (refine nw_bind ?_ fun _ => ?_) | (dsimp only; split) | split | trivial)
theorem nw_samePointer (a b : Option Addr) : Nw (samePointer a b) := by
  unfold samePointer
  repeat' (first | exact nw_program | exact nw_choose _ | exact nw_stuck _ | exact nw_unsupported _ | exact nw_goPanic _ | exact nw_shape _ | exact nw_frozen _ | exact nw_getObj _ | exact nw_newObj _ | exact nw_askRoom _ | exact nw_newRow _ _ | exact nw_newVar _ _ | exact nw_zeroValue _ | exact nw_asIntOf _ | exact nw_asInt _ | exact nw_asBool _ | exact nw_asAgg _ | exact nw_typeInfo _ | exact nw_underlying _ | exact nw_sizeOf _ | exact nw_isAgg _ | exact nw_loadVar _ _ | exact nw_loadCells _ _ | exact nw_runtimePanic _ | exact nw_asAddr _ | exact nw_pure _ | exact nw_map (nw_choose _) | exact nw_sameAddr _ _ | (refine nw_bind ?_ fun _ => ?_) | (dsimp only; split) | split | trivial)
theorem nw_sliceBound (x : Value) (y : Nat) (c : BoundsCode) : Nw (Instr.sliceBound x y c) := by
  unfold Instr.sliceBound
  repeat' (first | exact nw_program | exact nw_choose _ | exact nw_stuck _ | exact nw_unsupported _ | exact nw_goPanic _ | exact nw_shape _ | exact nw_frozen _ | exact nw_getObj _ | exact nw_newObj _ | exact nw_askRoom _ | exact nw_newRow _ _ | exact nw_newVar _ _ | exact nw_zeroValue _ | exact nw_asIntOf _ | exact nw_asInt _ | exact nw_asBool _ | exact nw_asAgg _ | exact nw_typeInfo _ | exact nw_underlying _ | exact nw_sizeOf _ | exact nw_isAgg _ | exact nw_loadVar _ _ | exact nw_loadCells _ _ | exact nw_runtimePanic _ | exact nw_asAddr _ | exact nw_pure _ | exact nw_map (nw_choose _) | exact nw_boundsPanic _ _ _ _ | (refine nw_bind ?_ fun _ => ?_) | (dsimp only; split) | split | trivial)
theorem nw_sliceBounds (b : Bool) (l c : Nat) (x y z : Option Value) : Nw (Instr.sliceBounds b l c x y z) := by
  unfold Instr.sliceBounds
  try dsimp only
  repeat' (first | exact nw_program | exact nw_choose _ | exact nw_stuck _ | exact nw_unsupported _ | exact nw_goPanic _ | exact nw_shape _ | exact nw_frozen _ | exact nw_getObj _ | exact nw_newObj _ | exact nw_askRoom _ | exact nw_newRow _ _ | exact nw_newVar _ _ | exact nw_zeroValue _ | exact nw_asIntOf _ | exact nw_asInt _ | exact nw_asBool _ | exact nw_asAgg _ | exact nw_typeInfo _ | exact nw_underlying _ | exact nw_sizeOf _ | exact nw_isAgg _ | exact nw_loadVar _ _ | exact nw_loadCells _ _ | exact nw_runtimePanic _ | exact nw_asAddr _ | exact nw_pure _ | exact nw_map (nw_choose _) | exact nw_sliceBound _ _ _ | (refine nw_bind ?_ fun _ => ?_) | (dsimp only; split) | split | trivial)

/-! ### the operations -/
theorem nw_move {x : Operand} : Nw (execOp ρ ⟨dst, .move x, ty, pos, af, gu⟩) := trivial
theorem nw_assign {x : Operand} : Nw (execOp ρ ⟨dst, .assign x, ty, pos, af, gu⟩) := trivial
theorem nw_pick {c x y : Operand} : Nw (execOp ρ ⟨dst, .pick c x y, ty, pos, af, gu⟩) := nw_bind (nw_asBool _) fun _ => trivial
theorem nw_alloc {t : TypeId} : Nw (execOp ρ ⟨dst, .alloc t, ty, pos, af, gu⟩) := nw_bind (nw_bind (nw_zeroValue t) fun _ => nw_bind (nw_newVar _ _) fun _ => trivial) fun _ => trivial
theorem nw_box {t : TypeId} {x : Operand} : Nw (execOp ρ ⟨dst, .box t x, ty, pos, af, gu⟩) := nw_bind (nw_bind (nw_newVar _ _) fun _ => trivial) fun _ => trivial
theorem nw_arrayMapM {α β : Type} (f : α → Sem β) (hf : ∀ x, Nw (f x)) (xs : Array α) : Nw (xs.mapM f) := by
  rw [Array.mapM_eq_mapM_toList]; exact nw_map (nw_listMapM _ hf _)
theorem nw_build {t : TypeId} {ps : Array (Nat × Operand)} : Nw (execOp ρ ⟨dst, .build t ps, ty, pos, af, gu⟩) := by
  refine nw_bind ?_ fun _ => trivial
  unfold Instr.build
  refine nw_bind (nw_zeroValue t) fun _ => ?_
  dsimp only
  refine nw_bind (nw_underlying t) fun d => ?_
  split
  · refine nw_bind (nw_arrayMapM _ (fun f => nw_bind (nw_sizeOf _) fun _ => nw_pure _) _) fun _ => ?_
    repeat' (first | exact nw_program | exact nw_choose _ | exact nw_stuck _ | exact nw_unsupported _ | exact nw_goPanic _ | exact nw_shape _ | exact nw_frozen _ | exact nw_getObj _ | exact nw_newObj _ | exact nw_askRoom _ | exact nw_newRow _ _ | exact nw_newVar _ _ | exact nw_zeroValue _ | exact nw_asIntOf _ | exact nw_asInt _ | exact nw_asBool _ | exact nw_asAgg _ | exact nw_typeInfo _ | exact nw_underlying _ | exact nw_sizeOf _ | exact nw_isAgg _ | exact nw_loadVar _ _ | exact nw_loadCells _ _ | exact nw_runtimePanic _ | exact nw_asAddr _ | exact nw_pure _ | exact nw_map (nw_choose _) | (refine nw_bind ?_ fun _ => ?_) | (dsimp only; split) | split | trivial)
  · repeat' (first | exact nw_program | exact nw_choose _ | exact nw_stuck _ | exact nw_unsupported _ | exact nw_goPanic _ | exact nw_shape _ | exact nw_frozen _ | exact nw_getObj _ | exact nw_newObj _ | exact nw_askRoom _ | exact nw_newRow _ _ | exact nw_newVar _ _ | exact nw_zeroValue _ | exact nw_asIntOf _ | exact nw_asInt _ | exact nw_asBool _ | exact nw_asAgg _ | exact nw_typeInfo _ | exact nw_underlying _ | exact nw_sizeOf _ | exact nw_isAgg _ | exact nw_loadVar _ _ | exact nw_loadCells _ _ | exact nw_runtimePanic _ | exact nw_asAddr _ | exact nw_pure _ | exact nw_map (nw_choose _) | (refine nw_bind ?_ fun _ => ?_) | (dsimp only; split) | split | trivial)
  · trivial
theorem nw_buildSlice {t : TypeId} {n : Nat} {ps : Array (Nat × Operand)} : Nw (execOp ρ ⟨dst, .buildSlice t n ps, ty, pos, af, gu⟩) := by
  refine nw_bind ?_ fun _ => trivial
  unfold Instr.buildSlice
  try dsimp only
  repeat' (first | exact nw_program | exact nw_choose _ | exact nw_stuck _ | exact nw_unsupported _ | exact nw_goPanic _ | exact nw_shape _ | exact nw_frozen _ | exact nw_getObj _ | exact nw_newObj _ | exact nw_askRoom _ | exact nw_newRow _ _ | exact nw_newVar _ _ | exact nw_zeroValue _ | exact nw_asIntOf _ | exact nw_asInt _ | exact nw_asBool _ | exact nw_asAgg _ | exact nw_typeInfo _ | exact nw_underlying _ | exact nw_sizeOf _ | exact nw_isAgg _ | exact nw_loadVar _ _ | exact nw_loadCells _ _ | exact nw_runtimePanic _ | exact nw_asAddr _ | exact nw_pure _ | exact nw_map (nw_choose _) | (refine nw_bind ?_ fun _ => ?_) | (dsimp only; split) | split | trivial)
theorem nw_sureAddr (v : Value) : Nw (Instr.sureAddr v) := by unfold Instr.sureAddr; split <;> trivial
theorem nw_loadOp {t : TypeId} {x : Operand} : Nw (execOp ρ ⟨dst, .load t x, ty, pos, af, gu⟩) := nw_bind (nw_bind (nw_sureAddr _) fun _ => nw_loadVar _ _) fun _ => trivial
theorem nw_unOp {u : UnOp} {t : TypeId} {x : Operand} : Nw (execOp ρ ⟨dst, .unOp u t x, ty, pos, af, gu⟩) := by
  refine nw_bind ?_ fun _ => trivial
  unfold Op.unary
  split <;> first | trivial | (unfold Op.intArith; trivial) | (unfold Op.intBits; trivial)
theorem nw_makeInterface {t : TypeId} {x : Operand} : Nw (execOp ρ ⟨dst, .makeInterface t x, ty, pos, af, gu⟩) := nw_bind (nw_bind (nw_underlying t) fun _ => by split <;> trivial) fun _ => trivial
theorem nw_makeFunc {f : Fn} {x y : Array Operand} : Nw (execOp ρ ⟨dst, .makeFunc f x y, ty, pos, af, gu⟩) := trivial
theorem nw_makeChan {t : TypeId} {x : Operand} : Nw (execOp ρ ⟨dst, .makeChan t x, ty, pos, af, gu⟩) := by
  refine nw_bind ?_ fun _ => trivial
  unfold Instr.makeChan
  try dsimp only
  repeat' (first | exact nw_program | exact nw_choose _ | exact nw_stuck _ | exact nw_unsupported _ | exact nw_goPanic _ | exact nw_shape _ | exact nw_frozen _ | exact nw_getObj _ | exact nw_newObj _ | exact nw_askRoom _ | exact nw_newRow _ _ | exact nw_newVar _ _ | exact nw_zeroValue _ | exact nw_asIntOf _ | exact nw_asInt _ | exact nw_asBool _ | exact nw_asAgg _ | exact nw_typeInfo _ | exact nw_underlying _ | exact nw_sizeOf _ | exact nw_isAgg _ | exact nw_loadVar _ _ | exact nw_loadCells _ _ | exact nw_runtimePanic _ | exact nw_asAddr _ | exact nw_pure _ | exact nw_map (nw_choose _) | (refine nw_bind ?_ fun _ => ?_) | (dsimp only; split) | split | trivial)
theorem nw_makeMap {t : TypeId} {x : Option Operand} : Nw (execOp ρ ⟨dst, .makeMap t x, ty, pos, af, gu⟩) := by
  refine nw_bind ?_ fun _ => trivial
  unfold Instr.makeMap
  try dsimp only
  repeat' (first | exact nw_program | exact nw_choose _ | exact nw_stuck _ | exact nw_unsupported _ | exact nw_goPanic _ | exact nw_shape _ | exact nw_frozen _ | exact nw_getObj _ | exact nw_newObj _ | exact nw_askRoom _ | exact nw_newRow _ _ | exact nw_newVar _ _ | exact nw_zeroValue _ | exact nw_asIntOf _ | exact nw_asInt _ | exact nw_asBool _ | exact nw_asAgg _ | exact nw_typeInfo _ | exact nw_underlying _ | exact nw_sizeOf _ | exact nw_isAgg _ | exact nw_loadVar _ _ | exact nw_loadCells _ _ | exact nw_runtimePanic _ | exact nw_asAddr _ | exact nw_pure _ | exact nw_map (nw_choose _) | (refine nw_bind ?_ fun _ => ?_) | (dsimp only; split) | split | trivial)
theorem nw_makeSlice {t : TypeId} {x y : Operand} : Nw (execOp ρ ⟨dst, .makeSlice t x y, ty, pos, af, gu⟩) := by
  refine nw_bind ?_ fun _ => trivial
  unfold Instr.makeSlice
  try dsimp only
  repeat' (first | exact nw_program | exact nw_choose _ | exact nw_stuck _ | exact nw_unsupported _ | exact nw_goPanic _ | exact nw_shape _ | exact nw_frozen _ | exact nw_getObj _ | exact nw_newObj _ | exact nw_askRoom _ | exact nw_newRow _ _ | exact nw_newVar _ _ | exact nw_zeroValue _ | exact nw_asIntOf _ | exact nw_asInt _ | exact nw_asBool _ | exact nw_asAgg _ | exact nw_typeInfo _ | exact nw_underlying _ | exact nw_sizeOf _ | exact nw_isAgg _ | exact nw_loadVar _ _ | exact nw_loadCells _ _ | exact nw_runtimePanic _ | exact nw_asAddr _ | exact nw_pure _ | exact nw_map (nw_choose _) | (refine nw_bind ?_ fun _ => ?_) | (dsimp only; split) | split | trivial)
theorem nw_indexAddr {t : TypeId} {x y : Operand} : Nw (execOp ρ ⟨dst, .indexAddr t x y, ty, pos, af, gu⟩) := by
  refine nw_bind ?_ fun _ => trivial
  unfold Instr.indexAt
  try dsimp only
  repeat' (first | exact nw_program | exact nw_choose _ | exact nw_stuck _ | exact nw_unsupported _ | exact nw_goPanic _ | exact nw_shape _ | exact nw_frozen _ | exact nw_getObj _ | exact nw_newObj _ | exact nw_askRoom _ | exact nw_newRow _ _ | exact nw_newVar _ _ | exact nw_zeroValue _ | exact nw_asIntOf _ | exact nw_asInt _ | exact nw_asBool _ | exact nw_asAgg _ | exact nw_typeInfo _ | exact nw_underlying _ | exact nw_sizeOf _ | exact nw_isAgg _ | exact nw_loadVar _ _ | exact nw_loadCells _ _ | exact nw_runtimePanic _ | exact nw_asAddr _ | exact nw_pure _ | exact nw_map (nw_choose _) | exact nw_sureAddr _ | exact nw_boundsPanic _ _ _ _ | (refine nw_bind ?_ fun _ => ?_) | (dsimp only; split) | split | trivial)
theorem nw_index {t : TypeId} {x y : Operand} : Nw (execOp ρ ⟨dst, .index t x y, ty, pos, af, gu⟩) := by
  refine nw_bind ?_ fun _ => trivial
  unfold Instr.index
  try dsimp only
  repeat' (first | exact nw_program | exact nw_choose _ | exact nw_stuck _ | exact nw_unsupported _ | exact nw_goPanic _ | exact nw_shape _ | exact nw_frozen _ | exact nw_getObj _ | exact nw_newObj _ | exact nw_askRoom _ | exact nw_newRow _ _ | exact nw_newVar _ _ | exact nw_zeroValue _ | exact nw_asIntOf _ | exact nw_asInt _ | exact nw_asBool _ | exact nw_asAgg _ | exact nw_typeInfo _ | exact nw_underlying _ | exact nw_sizeOf _ | exact nw_isAgg _ | exact nw_loadVar _ _ | exact nw_loadCells _ _ | exact nw_runtimePanic _ | exact nw_asAddr _ | exact nw_pure _ | exact nw_map (nw_choose _) | exact nw_part _ _ _ | exact nw_boundsPanic _ _ _ _ | (refine nw_bind ?_ fun _ => ?_) | (dsimp only; split) | split | trivial)
theorem nw_sliceOp {t : TypeId} {x : Operand} {l h m : Option Operand} : Nw (execOp ρ ⟨dst, .slice t x l h m, ty, pos, af, gu⟩) := by
  refine nw_bind ?_ fun _ => trivial
  unfold Instr.sliceAt Instr.slice
  try dsimp only
  repeat' (first | exact nw_program | exact nw_choose _ | exact nw_stuck _ | exact nw_unsupported _ | exact nw_goPanic _ | exact nw_shape _ | exact nw_frozen _ | exact nw_getObj _ | exact nw_newObj _ | exact nw_askRoom _ | exact nw_newRow _ _ | exact nw_newVar _ _ | exact nw_zeroValue _ | exact nw_asIntOf _ | exact nw_asInt _ | exact nw_asBool _ | exact nw_asAgg _ | exact nw_typeInfo _ | exact nw_underlying _ | exact nw_sizeOf _ | exact nw_isAgg _ | exact nw_loadVar _ _ | exact nw_loadCells _ _ | exact nw_runtimePanic _ | exact nw_asAddr _ | exact nw_pure _ | exact nw_map (nw_choose _) | exact nw_sureAddr _ | exact nw_sliceBounds _ _ _ _ _ _ | (refine nw_bind ?_ fun _ => ?_) | (dsimp only; split) | split | trivial)
theorem nw_field {t : TypeId} {x : Operand} {n : Nat} : Nw (execOp ρ ⟨dst, .field t x n, ty, pos, af, gu⟩) := by
  refine nw_bind ?_ fun _ => trivial
  unfold Instr.field
  try dsimp only
  repeat' (first | exact nw_program | exact nw_choose _ | exact nw_stuck _ | exact nw_unsupported _ | exact nw_goPanic _ | exact nw_shape _ | exact nw_frozen _ | exact nw_getObj _ | exact nw_newObj _ | exact nw_askRoom _ | exact nw_newRow _ _ | exact nw_newVar _ _ | exact nw_zeroValue _ | exact nw_asIntOf _ | exact nw_asInt _ | exact nw_asBool _ | exact nw_asAgg _ | exact nw_typeInfo _ | exact nw_underlying _ | exact nw_sizeOf _ | exact nw_isAgg _ | exact nw_loadVar _ _ | exact nw_loadCells _ _ | exact nw_runtimePanic _ | exact nw_asAddr _ | exact nw_pure _ | exact nw_map (nw_choose _) | exact nw_part _ _ _ | (refine nw_bind ?_ fun _ => ?_) | (dsimp only; split) | split | trivial)
theorem nw_extract {x : Operand} {n : Nat} : Nw (execOp ρ ⟨dst, .extract x n, ty, pos, af, gu⟩) := by
  refine nw_bind ?_ fun _ => trivial
  unfold Instr.extract
  repeat' (first | exact nw_program | exact nw_choose _ | exact nw_stuck _ | exact nw_unsupported _ | exact nw_goPanic _ | exact nw_shape _ | exact nw_frozen _ | exact nw_getObj _ | exact nw_newObj _ | exact nw_askRoom _ | exact nw_newRow _ _ | exact nw_newVar _ _ | exact nw_zeroValue _ | exact nw_asIntOf _ | exact nw_asInt _ | exact nw_asBool _ | exact nw_asAgg _ | exact nw_typeInfo _ | exact nw_underlying _ | exact nw_sizeOf _ | exact nw_isAgg _ | exact nw_loadVar _ _ | exact nw_loadCells _ _ | exact nw_runtimePanic _ | exact nw_asAddr _ | exact nw_pure _ | exact nw_map (nw_choose _) | (refine nw_bind ?_ fun _ => ?_) | (dsimp only; split) | split | trivial)
theorem nw_nilCheck {x : Operand} (h : ∀ n f c, ρ x ≠ .func (.method n) f c) : Nw (execOp ρ ⟨dst, .nilCheck x, ty, pos, af, gu⟩) := by
  unfold execOp
  simp only []
  generalize ρ x = v at h
  split
  · exact nw_runtimePanic _
  · exact nw_runtimePanic _
  · exact nw_runtimePanic _
  · rename_i n f c; exact absurd rfl (h n f c)
  · trivial
theorem nw_byteOf (a : Addr) : Nw (byteOf a) := by
  unfold byteOf
  try dsimp only
  repeat' (first | exact nw_program | exact nw_choose _ | exact nw_stuck _ | exact nw_unsupported _ | exact nw_goPanic _ | exact nw_shape _ | exact nw_frozen _ | exact nw_getObj _ | exact nw_newObj _ | exact nw_askRoom _ | exact nw_newRow _ _ | exact nw_newVar _ _ | exact nw_zeroValue _ | exact nw_asIntOf _ | exact nw_asInt _ | exact nw_asBool _ | exact nw_asAgg _ | exact nw_typeInfo _ | exact nw_underlying _ | exact nw_sizeOf _ | exact nw_isAgg _ | exact nw_loadVar _ _ | exact nw_loadCells _ _ | exact nw_runtimePanic _ | exact nw_asAddr _ | exact nw_pure _ | exact nw_map (nw_choose _) | (refine nw_bind ?_ fun _ => ?_) | (dsimp only; split) | split | trivial)
theorem nw_fieldAddr {t : TypeId} {x : Operand} {n : Nat} : Nw (execOp ρ ⟨dst, .fieldAddr t x n, ty, pos, af, gu⟩) := by
  refine nw_bind ?_ fun _ => trivial
  unfold Instr.fieldAt fieldPlace partAt
  try dsimp only
  repeat' (first | exact nw_program | exact nw_choose _ | exact nw_stuck _ | exact nw_unsupported _ | exact nw_goPanic _ | exact nw_shape _ | exact nw_frozen _ | exact nw_getObj _ | exact nw_newObj _ | exact nw_askRoom _ | exact nw_newRow _ _ | exact nw_newVar _ _ | exact nw_zeroValue _ | exact nw_asIntOf _ | exact nw_asInt _ | exact nw_asBool _ | exact nw_asAgg _ | exact nw_typeInfo _ | exact nw_underlying _ | exact nw_sizeOf _ | exact nw_isAgg _ | exact nw_loadVar _ _ | exact nw_loadCells _ _ | exact nw_runtimePanic _ | exact nw_asAddr _ | exact nw_pure _ | exact nw_map (nw_choose _) | exact nw_sureAddr _ | exact nw_byteOf _ | (refine nw_bind ?_ fun _ => ?_) | (dsimp only; split) | split | trivial)
theorem nw_intOps (op : BinOp) (k : IntKind) (m n : Int) : Nw (Op.intArith op k m n) ∧ Nw (Op.intBits op k m n) ∧ Nw (Op.intCmp op m n) ∧ Nw (Op.intDiv op k m n) := by
  refine ⟨?_, ?_, ?_, ?_⟩
  · unfold Op.intArith; split <;> trivial
  · unfold Op.intBits; dsimp only; split <;> trivial
  · unfold Op.intCmp; split <;> trivial
  · unfold Op.intDiv
    repeat' (first | exact nw_program | exact nw_choose _ | exact nw_stuck _ | exact nw_unsupported _ | exact nw_goPanic _ | exact nw_shape _ | exact nw_frozen _ | exact nw_getObj _ | exact nw_newObj _ | exact nw_askRoom _ | exact nw_newRow _ _ | exact nw_newVar _ _ | exact nw_zeroValue _ | exact nw_asIntOf _ | exact nw_asInt _ | exact nw_asBool _ | exact nw_asAgg _ | exact nw_typeInfo _ | exact nw_underlying _ | exact nw_sizeOf _ | exact nw_isAgg _ | exact nw_loadVar _ _ | exact nw_loadCells _ _ | exact nw_runtimePanic _ | exact nw_asAddr _ | exact nw_pure _ | exact nw_map (nw_choose _) | (refine nw_bind ?_ fun _ => ?_) | (dsimp only; split) | split | trivial)
theorem nw_shift (op : BinOp) (k k' : IntKind) (m n : Int) : Nw (Op.shift op k m k' n) := by
  unfold Op.shift
  try dsimp only
  repeat' (first | exact nw_program | exact nw_choose _ | exact nw_stuck _ | exact nw_unsupported _ | exact nw_goPanic _ | exact nw_shape _ | exact nw_frozen _ | exact nw_getObj _ | exact nw_newObj _ | exact nw_askRoom _ | exact nw_newRow _ _ | exact nw_newVar _ _ | exact nw_zeroValue _ | exact nw_asIntOf _ | exact nw_asInt _ | exact nw_asBool _ | exact nw_asAgg _ | exact nw_typeInfo _ | exact nw_underlying _ | exact nw_sizeOf _ | exact nw_isAgg _ | exact nw_loadVar _ _ | exact nw_loadCells _ _ | exact nw_runtimePanic _ | exact nw_asAddr _ | exact nw_pure _ | exact nw_map (nw_choose _) | (refine nw_bind ?_ fun _ => ?_) | (dsimp only; split) | split | trivial)
theorem nw_binOpInt (op : BinOp) (t : TypeId) (k k' : IntKind) (m n : Int) : Nw (binOp op t (.int k m) (.int k' n)) := by
  have h := nw_intOps
  cases op <;> simp only [binOp] <;> first
    | exact nw_shift _ _ _ _ _
    | (split
       · trivial
       · first | exact (h _ k m n).1 | exact (h _ k m n).2.1 | exact (h _ k m n).2.2.1 | exact (h _ k m n).2.2.2)
theorem nw_binInt {op : BinOp} {t u : TypeId} {x y : Operand} {k k' : IntKind} {m n : Int} (hx : ρ x = .int k m) (hy : ρ y = .int k' n) : Nw (execOp ρ ⟨dst, .binOp op t x y u, ty, pos, af, gu⟩) := by
  unfold execOp
  simp only [hx, hy]
  refine nw_bind (nw_bind ?_ fun _ => nw_binOpInt _ _ _ _ _ _) fun _ => trivial
  unfold eqGuard
  try dsimp only
  repeat' (first | exact nw_program | exact nw_choose _ | exact nw_stuck _ | exact nw_unsupported _ | exact nw_goPanic _ | exact nw_shape _ | exact nw_frozen _ | exact nw_getObj _ | exact nw_newObj _ | exact nw_askRoom _ | exact nw_newRow _ _ | exact nw_newVar _ _ | exact nw_zeroValue _ | exact nw_asIntOf _ | exact nw_asInt _ | exact nw_asBool _ | exact nw_asAgg _ | exact nw_typeInfo _ | exact nw_underlying _ | exact nw_sizeOf _ | exact nw_isAgg _ | exact nw_loadVar _ _ | exact nw_loadCells _ _ | exact nw_runtimePanic _ | exact nw_asAddr _ | exact nw_pure _ | exact nw_map (nw_choose _) | (refine nw_bind ?_ fun _ => ?_) | (dsimp only; split) | split | trivial)
theorem nw_lenOp {ts : Array TypeId} {xs : Array Operand} : Nw (execOp ρ ⟨dst, .call ⟨.builtin .len, xs, ts⟩, ty, pos, af, gu⟩) := by
  rw [BigFrame.execOp_builtin, BigFrame.builtin_len]
  refine nw_bind ?_ fun _ => trivial
  unfold Builtin.len_
  try dsimp only
  repeat' (first | exact nw_program | exact nw_choose _ | exact nw_stuck _ | exact nw_unsupported _ | exact nw_goPanic _ | exact nw_shape _ | exact nw_frozen _ | exact nw_getObj _ | exact nw_newObj _ | exact nw_askRoom _ | exact nw_newRow _ _ | exact nw_newVar _ _ | exact nw_zeroValue _ | exact nw_asIntOf _ | exact nw_asInt _ | exact nw_asBool _ | exact nw_asAgg _ | exact nw_typeInfo _ | exact nw_underlying _ | exact nw_sizeOf _ | exact nw_isAgg _ | exact nw_loadVar _ _ | exact nw_loadCells _ _ | exact nw_runtimePanic _ | exact nw_asAddr _ | exact nw_pure _ | exact nw_map (nw_choose _) | (refine nw_bind ?_ fun _ => ?_) | (dsimp only; split) | split | trivial)
theorem nw_capOp {ts : Array TypeId} {xs : Array Operand} : Nw (execOp ρ ⟨dst, .call ⟨.builtin .cap, xs, ts⟩, ty, pos, af, gu⟩) := by
  rw [BigFrame.execOp_builtin, BigFrame.builtin_cap]
  refine nw_bind ?_ fun _ => trivial
  unfold Builtin.cap_
  try dsimp only
  repeat' (first | exact nw_program | exact nw_choose _ | exact nw_stuck _ | exact nw_unsupported _ | exact nw_goPanic _ | exact nw_shape _ | exact nw_frozen _ | exact nw_getObj _ | exact nw_newObj _ | exact nw_askRoom _ | exact nw_newRow _ _ | exact nw_newVar _ _ | exact nw_zeroValue _ | exact nw_asIntOf _ | exact nw_asInt _ | exact nw_asBool _ | exact nw_asAgg _ | exact nw_typeInfo _ | exact nw_underlying _ | exact nw_sizeOf _ | exact nw_isAgg _ | exact nw_loadVar _ _ | exact nw_loadCells _ _ | exact nw_runtimePanic _ | exact nw_asAddr _ | exact nw_pure _ | exact nw_map (nw_choose _) | (refine nw_bind ?_ fun _ => ?_) | (dsimp only; split) | split | trivial)
/-- Values that hold no others. -/
def flatV : Value → Bool
  | .agg _ | .iface _ _ | .tuple _ => false
  | _ => true
theorem nw_equal (t : TypeId) (x y : Value) (hx : flatV x = true) : Nw (Op.equal t x y) := by
  show Nw (Op.equalIn (9999 + 1) t x y)
  unfold Op.equalIn
  refine nw_bind (nw_underlying t) fun d => ?_
  split <;> (try trivial) <;> (try (simp [flatV] at hx; done))
  repeat' (first | exact nw_program | exact nw_choose _ | exact nw_stuck _ | exact nw_unsupported _ | exact nw_goPanic _ | exact nw_shape _ | exact nw_frozen _ | exact nw_getObj _ | exact nw_newObj _ | exact nw_askRoom _ | exact nw_newRow _ _ | exact nw_newVar _ _ | exact nw_zeroValue _ | exact nw_asIntOf _ | exact nw_asInt _ | exact nw_asBool _ | exact nw_asAgg _ | exact nw_typeInfo _ | exact nw_underlying _ | exact nw_sizeOf _ | exact nw_isAgg _ | exact nw_loadVar _ _ | exact nw_loadCells _ _ | exact nw_runtimePanic _ | exact nw_asAddr _ | exact nw_pure _ | exact nw_map (nw_choose _) | exact nw_behindNumber _ | exact nw_byteOf _ | exact nw_sameAddr _ _ | exact nw_samePointer _ _ | (refine nw_bind ?_ fun _ => ?_) | (dsimp only; split) | split | trivial)
def isC : Operand → Bool
  | .const _ => true
  | _ => false
theorem nw_ite {α : Type} {c : Prop} [Decidable c] {x y : Sem α} (hx : Nw x) (hy : ¬ c → Nw y) : Nw (if c then x else y) := by
  split
  · exact hx
  · exact hy ‹_›
theorem nw_eqGuard (op : BinOp) (t : TypeId) (x y : Operand) (a b : Value) (ha : flatV a = true) (hb : a ≠ .nilIface ∨ isC x = true ∨ isC y = true) : Nw (eqGuard op t x y a b) := by
  unfold eqGuard
  refine nw_ite trivial fun _ => ?_
  split
  · refine nw_ite trivial fun h => ?_
    rcases hb with hb | hb | hb
    · exact absurd rfl hb
    · cases x <;> first | (simp at h; done) | simp [isC] at hb
    · cases y <;> first | (simp at h; done) | simp [isC] at hb
  · simp [flatV] at ha
  · trivial
theorem nw_eqOp {t u : TypeId} {x y : Operand} (hx : flatV (ρ x) = true) (hg : ρ x ≠ .nilIface ∨ isC x = true ∨ isC y = true) (hi : ∀ k n, ρ x ≠ .int k n) (hf : ∀ k n, ρ x ≠ .float k n) (hc : ∀ k m n, ρ x ≠ .complex k m n) (hs : ∀ s, ρ x ≠ .string s) :
    Nw (execOp ρ ⟨dst, .binOp .eql t x y u, ty, pos, af, gu⟩) ∧ Nw (execOp ρ ⟨dst, .binOp .neq t x y u, ty, pos, af, gu⟩) := by
  have he := nw_equal t (ρ x) (ρ y) hx
  have h1 := nw_eqGuard .eql t x y (ρ x) (ρ y) hx hg
  have h2 := nw_eqGuard .neq t x y (ρ x) (ρ y) hx hg
  constructor
  · unfold execOp
    dsimp only
    refine nw_bind (nw_bind h1 fun _ => ?_) fun _ => trivial
    unfold binOp
    split <;> first | (rename_i h3 h4; first | exact absurd h3 (hi _ _) | exact absurd h3 (hf _ _) | exact absurd h3 (hc _ _ _) | exact absurd h3 (hs _)) | exact nw_bind he fun _ => trivial | simp_all
  · unfold execOp
    dsimp only
    refine nw_bind (nw_bind h2 fun _ => ?_) fun _ => trivial
    unfold binOp
    split <;> first | (rename_i h3 h4; first | exact absurd h3 (hi _ _) | exact absurd h3 (hf _ _) | exact absurd h3 (hc _ _ _) | exact absurd h3 (hs _)) | exact nw_bind he fun _ => trivial | simp_all
/-! ### the same, as a test -/
theorem nw_listForIn {α β : Type} (f : α → β → Sem (ForInStep β)) (hf : ∀ a b, Nw (f a b)) : ∀ (l : List α) (b : β), Nw (forIn l b f)
  | [], b => by simpa using nw_pure b
  | x :: l, b => by
    rw [List.forIn_cons]
    refine nw_bind (hf x b) fun r => ?_
    cases r with
    | done b => trivial
    | yield b => exact nw_listForIn f hf l b
theorem nw_arrayForIn {α β : Type} (f : α → β → Sem (ForInStep β)) (hf : ∀ a b, Nw (f a b)) (l : Array α) (b : β) : Nw (forIn l b f) := by
  rw [← Array.forIn_toList]
  exact nw_listForIn f hf _ _
theorem nw_rangeForIn {β : Type} (f : Nat → β → Sem (ForInStep β)) (hf : ∀ a b, Nw (f a b)) (n : Std.Legacy.Range) (b : β) : Nw (forIn n b f) := by
  rw [Std.Legacy.Range.forIn_eq_forIn_range']
  exact nw_listForIn f hf _ _
theorem nw_typeStr (t : TypeId) : Nw (typeStr t) := by
  unfold typeStr
  repeat' (first | exact nw_program | exact nw_choose _ | exact nw_stuck _ | exact nw_unsupported _ | exact nw_goPanic _ | exact nw_shape _ | exact nw_frozen _ | exact nw_getObj _ | exact nw_newObj _ | exact nw_zeroValue _ | exact nw_typeInfo _ | exact nw_underlying _ | exact nw_sizeOf _ | exact nw_isAgg _ | exact nw_loadVar _ _ | exact nw_loadCells _ _ | exact nw_runtimePanic _ | exact nw_asAddr _ | exact nw_pure _ | exact nw_map (nw_choose _) | exact nw_behindNumber _ | exact nw_byteOf _ | exact nw_sameAddr _ _ | exact nw_samePointer _ _ | exact nw_part _ _ _ | (refine nw_bind ?_ fun _ => ?_) | (dsimp only; split) | split | trivial)
set_option maxHeartbeats 8000000 in
theorem nw_equalIn : ∀ (n : Nat) (t : TypeId) (x y : Value), Nw (Op.equalIn n t x y)
  | 0, _, _, _ => trivial
  | n + 1, t, x, y => by
    have ih := nw_equalIn n
    unfold Op.equalIn
    refine nw_bind (nw_underlying t) fun d => ?_
    split
    all_goals first
      | trivial
      | (repeat' (first | exact ih _ _ _ | exact nw_typeStr _ | exact nw_arrayForIn _ (fun _ _ => ?_) _ _ | refine nw_arrayForIn _ (fun _ _ => ?_) _ _ | refine nw_rangeForIn _ (fun _ _ => ?_) _ _ | exact nw_program | exact nw_choose _ | exact nw_stuck _ | exact nw_unsupported _ | exact nw_goPanic _ | exact nw_shape _ | exact nw_frozen _ | exact nw_getObj _ | exact nw_newObj _ | exact nw_zeroValue _ | exact nw_typeInfo _ | exact nw_underlying _ | exact nw_sizeOf _ | exact nw_isAgg _ | exact nw_loadVar _ _ | exact nw_loadCells _ _ | exact nw_runtimePanic _ | exact nw_asAddr _ | exact nw_pure _ | exact nw_map (nw_choose _) | exact nw_behindNumber _ | exact nw_byteOf _ | exact nw_sameAddr _ _ | exact nw_samePointer _ _ | exact nw_part _ _ _ | (refine nw_bind ?_ fun _ => ?_) | (dsimp only; split) | split | trivial))
theorem nw_eqGuardIn : ∀ (n : Nat) (t : TypeId) (x y : Value), Nw (Op.eqGuardIn n t x y)
  | 0, _, _, _ => trivial
  | n + 1, t, x, y => by
    have ih := nw_eqGuardIn n
    unfold Op.eqGuardIn
    refine nw_bind (nw_underlying t) fun d => ?_
    split
    all_goals first
      | trivial
      | (repeat' (first | exact ih _ _ _ | refine nw_arrayForIn _ (fun _ _ => ?_) _ _ | refine nw_rangeForIn _ (fun _ _ => ?_) _ _ | exact nw_program | exact nw_sizeOf _ | exact nw_part _ _ _ | (refine nw_bind ?_ fun _ => ?_) | (dsimp only; split) | split | trivial))
theorem nw_eqGuardAny (op : BinOp) (t : TypeId) (x y : Operand) (a b : Value) : Nw (eqGuard op t x y a b) := by
  unfold eqGuard
  refine nw_ite trivial fun _ => ?_
  split
  · refine nw_ite trivial fun h => nw_bind (nw_eqGuardIn _ _ _ _) fun _ => ?_
    split <;> trivial
  · refine nw_bind nw_program fun _ => nw_bind nw_program fun _ => nw_ite trivial fun _ => nw_bind (nw_eqGuardIn _ _ _ _) fun _ => ?_
    split <;> trivial
  · trivial
/-- A value that is no number and no string. -/
def plainV : Value → Bool
  | .int _ _ | .float _ _ | .complex _ _ _ | .string _ => false
  | _ => true
theorem nw_eqAny {t u : TypeId} {x y : Operand} (hp : plainV (ρ x) = true) :
    Nw (execOp ρ ⟨dst, .binOp .eql t x y u, ty, pos, af, gu⟩) ∧ Nw (execOp ρ ⟨dst, .binOp .neq t x y u, ty, pos, af, gu⟩) := by
  have he : Nw (Op.equal t (ρ x) (ρ y)) := nw_equalIn _ _ _ _
  have h1 := nw_eqGuardAny .eql t x y (ρ x) (ρ y)
  have h2 := nw_eqGuardAny .neq t x y (ρ x) (ρ y)
  generalize hv : ρ x = v at *
  constructor
  · unfold execOp
    dsimp only
    rw [hv]
    refine nw_bind (nw_bind h1 fun _ => ?_) fun _ => trivial
    unfold binOp
    split <;> first | (simp [plainV] at hp; done) | exact nw_bind he fun _ => trivial | simp_all
  · unfold execOp
    dsimp only
    rw [hv]
    refine nw_bind (nw_bind h2 fun _ => ?_) fun _ => trivial
    unfold binOp
    split <;> first | (simp [plainV] at hp; done) | exact nw_bind he fun _ => trivial | simp_all
theorem nw_strOp {op : BinOp} {t u : TypeId} {x y : Operand} {a b : ByteArray} (hx : ρ x = .string a) (hy : ρ y = .string b) : Nw (execOp ρ ⟨dst, .binOp op t x y u, ty, pos, af, gu⟩) := by
  unfold execOp
  dsimp only
  rw [hx, hy]
  refine nw_bind (nw_bind (nw_eqGuardAny _ _ _ _ _ _) fun _ => ?_) fun _ => trivial
  show Nw (binOp op t (.string a) (.string b))
  have : binOp op t (.string a) (.string b) = Op.stringOp op a b := by cases op <;> rfl
  rw [this]
  unfold Op.stringOp
  repeat' (first | exact nw_askRoom _ | (refine nw_bind ?_ fun _ => ?_) | split | trivial)
theorem nw_minOp {ts : Array TypeId} {x y : Operand} {k k' : IntKind} {m n : Int} (hx : ρ x = .int k m) (hy : ρ y = .int k' n) : Nw (execOp ρ ⟨dst, .call ⟨.builtin .min, #[x, y], ts⟩, ty, pos, af, gu⟩) := by
  rw [BigFrame.execOp_builtin]
  show Nw (builtin .min _ _ _ _)
  unfold builtin
  simp only [Builtin.min_, List.map_toArray, List.map_cons, List.map_nil, hx, hy, List.foldlM_cons, List.foldlM_nil]
  trivial
theorem nw_maxOp {ts : Array TypeId} {x y : Operand} {k k' : IntKind} {m n : Int} (hx : ρ x = .int k m) (hy : ρ y = .int k' n) : Nw (execOp ρ ⟨dst, .call ⟨.builtin .max, #[x, y], ts⟩, ty, pos, af, gu⟩) := by
  rw [BigFrame.execOp_builtin]
  show Nw (builtin .max _ _ _ _)
  unfold builtin
  simp only [Builtin.max_, List.map_toArray, List.map_cons, List.map_nil, hx, hy, List.foldlM_cons, List.foldlM_nil]
  trivial
/-- The operations that write nothing, told by their kind and their operands. -/
def nwB (ρ : Operand → Value) : Op → Bool
  | .pick _ _ _ | .alloc _ | .box _ _ | .build _ _ | .buildSlice _ _ _ | .load _ _ | .unOp _ _ _ | .makeInterface _ _ | .makeFunc _ _ _ | .makeChan _ _ | .makeMap _ _ | .makeSlice _ _ _ | .indexAddr _ _ _ | .index _ _ _ | .slice _ _ _ _ _ | .field _ _ _ | .extract _ _ | .fieldAddr _ _ _ => true
  | .nilCheck x => match ρ x with
    | .func (.method _) _ _ => false
    | _ => true
  | .binOp .eql _ x y _ | .binOp .neq _ x y _ => match ρ x, ρ y with
    | .int _ _, .int _ _ => true
    | .string _, .string _ => true
    | v, _ => plainV v
  | .binOp _ _ x y _ => match ρ x, ρ y with
    | .int _ _, .int _ _ => true
    | .string _, .string _ => true
    | _, _ => false
  | .call ⟨.builtin .len, _, _⟩ | .call ⟨.builtin .cap, _, _⟩ => true
  | .call ⟨.builtin .min, ⟨[x, y]⟩, _⟩ | .call ⟨.builtin .max, ⟨[x, y]⟩, _⟩ => match ρ x, ρ y with
    | .int _ _, .int _ _ => true
    | _, _ => false
  | _ => false
theorem nw_of {o : Oper} (h : nwB ρ o.op = true) : Nw (execOp ρ o) := by
  obtain ⟨dst, op, ty, pos, af, gu⟩ := o
  simp only at h
  unfold nwB at h
  split at h
  all_goals first
    | (cases h; done)
    | exact nw_pick | exact nw_alloc | exact nw_box | exact nw_build | exact nw_buildSlice | exact nw_loadOp | exact nw_unOp | exact nw_makeInterface | exact nw_makeFunc | exact nw_makeChan | exact nw_makeMap | exact nw_makeSlice | exact nw_indexAddr | exact nw_index | exact nw_sliceOp | exact nw_field | exact nw_extract | exact nw_fieldAddr | exact nw_lenOp | exact nw_capOp
    | skip
  · refine nw_nilCheck fun n f c e => ?_
    rw [e] at h
    cases h
  all_goals (split at h <;> first | (cases h; done) | exact nw_binInt (by assumption) (by assumption) | exact nw_strOp (by assumption) (by assumption) | exact nw_minOp (by assumption) (by assumption) | exact nw_maxOp (by assumption) (by assumption) | exact (nw_eqAny h).1 | exact (nw_eqAny h).2)
end Go.Proofs.Ythnfheohfnhcpaa.Y
