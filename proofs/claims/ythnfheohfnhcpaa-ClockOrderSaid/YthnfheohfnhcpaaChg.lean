/- How a world may change between two points. -/
import Derived.Test.YthnfheohfnhcpaaOpc
namespace Go.Proofs.Ythnfheohfnhcpaa.Y
open Go Go.Conc Go.Proofs
/-- Of the blocks that stood, only those in T may have changed; the rest of the world stands. -/
structure Chg (T : Nat → Prop) (w w' : World) : Prop where
  tape : w'.tape = w.tape
  os : w'.os = w.os
  output : w'.output = w.output
  size : w.heap.size ≤ w'.heap.size
  keep : ∀ b, b < w.heap.size → ¬ T b → w'.heap[b]? = w.heap[b]?
section
variable {T T' : Nat → Prop} {w w' w'' : World}
theorem Chg.refl (T : Nat → Prop) (w : World) : Chg T w w := ⟨rfl, rfl, rfl, Nat.le_refl _, fun _ _ _ => rfl⟩
theorem Chg.trans (h : Chg T w w') (k : Chg T' w' w'') (hT : ∀ b, b < w.heap.size → T' b → T b) : Chg T w w'' :=
  ⟨k.tape.trans h.tape, k.os.trans h.os, k.output.trans h.output, Nat.le_trans h.size k.size, fun b hb hn => (k.keep b (Nat.lt_of_lt_of_le hb h.size) (fun x => hn (hT b hb x))).trans (h.keep b hb hn)⟩
theorem Chg.mono (h : Chg T w w') (hT : ∀ b, b < w.heap.size → T b → T' b) : Chg T' w w' := ⟨h.tape, h.os, h.output, h.size, fun b hb hn => h.keep b hb (fun x => hn (hT b hb x))⟩
theorem Chg.alloc (h : Chg T w w') (o : Obj) : Chg T w (w'.alloc o) :=
  ⟨h.tape, h.os, h.output, Nat.le_trans h.size (by rw [World.size_alloc]; omega), fun b hb hn => (heap_alloc_other w' o (by have := h.size; omega)).trans (h.keep b hb hn)⟩
theorem size_setCell (w : World) (a : Addr) (v : Value) : (w.setCell a v).heap.size = w.heap.size := by simp [World.setCell]
theorem Chg.setCell (h : Chg T w w') {a : Addr} (v : Value) (ha : T a.block ∨ w.heap.size ≤ a.block) : Chg T w (w'.setCell a v) :=
  ⟨h.tape, h.os, h.output, by rw [size_setCell]; exact h.size, fun b hb hn => by
    rw [heap_setCell_ne (fun e => by subst e; rcases ha with x | x; exact hn x; omega)]
    exact h.keep b hb hn⟩
theorem Chg.setCells (h : Chg T w w') {b : Nat} : ∀ (vs : List Value) (o : Nat), (T b ∨ w.heap.size ≤ b) → Chg T w (w'.setCells b o vs) := by
  intro vs
  induction vs generalizing w' with
  | nil => exact fun _ _ => h
  | cons v vs ih => exact fun o hb => ih (h.setCell v hb) (o + 1) hb
theorem Chg.cell (h : Chg T w w') {a : Addr} (ha : a.block < w.heap.size) (hn : ¬ T a.block) : w'.cell? a = w.cell? a := by
  unfold World.cell?; rw [h.keep _ ha hn]
theorem lt_of_cell {w : World} {a : Addr} {v : Value} (h : w.cell? a = some v) : a.block < w.heap.size := World.block_lt_of_cell? w a h
theorem Chg.cell_is (h : Chg T w w') {a : Addr} {v : Value} (hc : w.cell? a = some v) (hn : ¬ T a.block) : w'.cell? a = some v := (h.cell (lt_of_cell hc) hn).trans hc
theorem IsC.lt {w : World} {b : Nat} {v : Int} (h : IsC w b v) : b < w.heap.size := (Array.getElem?_eq_some_iff.1 h).1
theorem Chg.isC (h : Chg T w w') {b : Nat} {v : Int} (hc : IsC w b v) (hn : ¬ T b) : IsC w' b v := (h.keep b hc.lt hn).trans hc
theorem Chg.frozen (h : Chg T w w') {a : Addr} (ha : a.block < w.heap.size) (hn : ¬ T a.block) : w'.frozen? a = w.frozen? a := by
  unfold World.frozen?; rw [h.keep _ ha hn]
end
/-- The two cells of a structure of two. -/
theorem two_alloc (w : World) (u v : Value) (t : TypeId) : (w.alloc (.cells #[u, v] t (0, 0))).cell? ⟨w.heap.size, 0, none⟩ = some u ∧ (w.alloc (.cells #[u, v] t (0, 0))).cell? ⟨w.heap.size, 1, none⟩ = some v ∧ ∀ o, (w.alloc (.cells #[u, v] t (0, 0))).frozen? ⟨w.heap.size, o, none⟩ = false := by
  have h := heap_alloc_self w (.cells #[u, v] t (0, 0))
  refine ⟨?_, ?_, fun o => ?_⟩
  · unfold World.cell?; simp only; rw [h]; rfl
  · unfold World.cell?; simp only; rw [h]; rfl
  · unfold World.frozen?; simp only; rw [h]; simp
/-- What an engine must let by where a goroutine without a thread works. -/
structure Lone {S : Type} (E : Eng Try.prog S) (σ : S) : Prop where
  may : E.mayMark σ
  no : ∀ a, ¬ E.still σ a
theorem results_ct {P : Program} {fn : Func} {tmps : Array Value} {r t b : Nat} {ty : TypeId} {w : World} {u v : Value} (h : fn.results = #[.cell r ty, .tmp t]) (hr : tmps.getD r undef = .pointer (some ⟨b, 0, none⟩))
    (hag : (isAgg ty).run P w = .ok true w) (hsz : (sizeOf ty).run P w = .ok 2 w) (h0 : w.cell? ⟨b, 0, none⟩ = some u) (h1 : w.cell? ⟨b, 1, none⟩ = some v) : (results fn tmps).run P w = .ok (.tuple #[.agg #[u, v], tmps.getD t undef]) w := by
  have hr' : tmps[r]?.getD undef = .pointer (some ⟨b, 0, none⟩) := by rw [← hr, Array.getD_eq_getD_getElem?]
  simp [results, h, hr', asAddr, loadVar, hag, hsz, loadCells, loadCellsFrom, Addr.add, h0, h1]
theorem junk_intro {A : Act} (g : (Nat → Value) → Act) (h : A = g (fun k => A.tmps.getD k undef)) : ∃ j, A = g j := ⟨_, h⟩
theorem wrap64 {x : Int} (h1 : -9223372036854775808 ≤ x) (h2 : x ≤ 9223372036854775807) : IntKind.i64.wrap x = x := by
  rw [IntKind.wrap_i64]; omega
end Go.Proofs.Ythnfheohfnhcpaa.Y
