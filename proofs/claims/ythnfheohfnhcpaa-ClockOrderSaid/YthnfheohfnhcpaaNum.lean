/- Cells by their numbers: the blocks rise; slices that are read. -/
import Derived.Test.YthnfheohfnhcpaaChg
import Derived.Test.YthnfheohfnhcpaaApp
set_option linter.unusedSimpArgs false
set_option linter.unusedVariables false
namespace Go.Proofs.Ythnfheohfnhcpaa.Y
open Go Go.Conc Go.Proofs
/-- The function but for one place. -/
def upd1 {α : Type} (f : Nat → α) (i : Nat) (v : α) : Nat → α := fun j => if j = i then v else f j
theorem upd1_same {α : Type} (f : Nat → α) (i : Nat) (v : α) : upd1 f i v i = v := by simp [upd1]
theorem upd1_ne {α : Type} (f : Nat → α) {i j : Nat} (v : α) (h : j ≠ i) : upd1 f i v j = f j := by simp [upd1, h]
/-- The first N cells, at rising blocks. -/
structure Nums (w : World) (cb : Nat → Nat) (N : Nat) (val : Nat → Int) : Prop where
  inc : ∀ i j, i < j → j < N → cb i < cb j
  cell : ∀ k, k < N → IsC w (cb k) (val k)
section
variable {w w' : World} {cb : Nat → Nat} {N k i j : Nat} {val : Nat → Int}
theorem Nums.zero (w : World) (cb : Nat → Nat) (val : Nat → Int) : Nums w cb 0 val := ⟨fun _ _ _ h => by omega, fun _ h => by omega⟩
theorem Nums.ne (h : Nums w cb N val) (hi : i < N) (hj : j < N) (hij : i ≠ j) : cb i ≠ cb j := fun e => by
  rcases Nat.lt_or_gt_of_ne hij with x | x
  · have := h.inc i j x hj; omega
  · have := h.inc j i x hi; omega
theorem Nums.lt (h : Nums w cb N val) (hk : k < N) : cb k < w.heap.size := (h.cell k hk).lt
theorem Nums.set (h : Nums w cb N val) (hk : k < N) (x : Int) : Nums (w.setCell ⟨cb k, 0, none⟩ (.int .i64 x)) cb N (upd1 val k x) := by
  refine ⟨h.inc, fun i hi => ?_⟩
  by_cases e : i = k
  · subst e; rw [upd1_same]; exact (h.cell i hi).set x
  · rw [upd1_ne _ _ e]; exact (h.cell i hi).other (h.ne hi hk e) _
theorem Nums.kept (h : Nums w cb N val) {T : Nat → Prop} (c : Chg T w w') (hT : ∀ k, k < N → ¬ T (cb k)) : Nums w' cb N val := ⟨h.inc, fun i hi => c.isC (h.cell i hi) (hT i hi)⟩
theorem Nums.other (h : Nums w cb N val) {a : Addr} (v : Value) (ha : ∀ k, k < N → cb k ≠ a.block) : Nums (w.setCell a v) cb N val := ⟨h.inc, fun i hi => (h.cell i hi).other (ha i hi) _⟩
theorem Nums.more (h : Nums w cb N val) (o : Obj) : Nums (w.alloc o) cb N val := ⟨h.inc, fun i hi => (h.cell i hi).more o⟩
theorem Nums.push (h : Nums w cb N val) (v : Int) : Nums (w.alloc (cellObj v)) (upd1 cb N w.heap.size) (N + 1) (upd1 val N v) := by
  refine ⟨fun i j hij hj => ?_, fun i hi => ?_⟩
  · by_cases e : j = N
    · subst e
      rw [upd1_same, upd1_ne _ _ (by omega)]
      exact h.lt hij
    · rw [upd1_ne _ _ e, upd1_ne _ _ (by omega)]
      exact h.inc i j hij (by omega)
  · by_cases e : i = N
    · subst e; rw [upd1_same, upd1_same]; exact isC_alloc
    · rw [upd1_ne _ _ e, upd1_ne _ _ e]; exact (h.cell i (by omega)).more _
theorem Nums.mono (h : Nums w cb N val) {M : Nat} (hM : M ≤ N) : Nums w cb M val := ⟨fun i j hij hj => h.inc i j hij (by omega), fun k hk => h.cell k (by omega)⟩
theorem Nums.congr (h : Nums w cb N val) {cb' : Nat → Nat} {val' : Nat → Int} (hc : ∀ k, k < N → cb' k = cb k) (hv : ∀ k, k < N → val' k = val k) : Nums w cb' N val' :=
  ⟨fun i j hij hj => by rw [hc i (by omega), hc j hj]; exact h.inc i j hij hj, fun k hk => by rw [hc k hk, hv k hk]; exact h.cell k hk⟩
/-- These are the cells' blocks. -/
def InN (cb : Nat → Nat) (N : Nat) : Nat → Prop := fun b => ∃ k, k < N ∧ b = cb k
theorem chg_set (w : World) (hk : k < N) (v : Value) : Chg (InN cb N) w (w.setCell ⟨cb k, 0, none⟩ v) := (Chg.refl _ w).setCell (a := ⟨cb k, 0, none⟩) v (.inl ⟨k, hk, rfl⟩)
end
/-! ### rows of one's own -/
section
variable {w w' : World} {T : Nat → Prop} {base : Nat} {e : TypeId} {size : Nat} {v : Value} {n : Nat} {xs : List Value}
theorem own_chg (h : w.ownsRow base e size v n xs) (c : Chg T w w') (hT : ∀ g, v.ownBlock = some g → ¬ T g) : w'.ownsRow base e size v n xs := by
  refine ⟨h.1, ?_⟩
  rcases h.2 with hn | ⟨g, cap, cur, rfl, hb, hg, rest⟩
  · exact .inl hn
  · exact .inr ⟨g, cap, cur, rfl, hb, by rw [c.keep g (Array.getElem?_eq_some_iff.1 hg).1 (hT g rfl)]; exact hg, rest⟩
theorem chg_grown {row : Option Nat} (h : w.grownBy w' row) : Chg (fun b => row = some b) w w' := ⟨h.tape, h.os, h.output, h.size, fun b hb hn => h.block b hb (fun e => hn e.symm)⟩
theorem add_at0 (g j : Nat) : (⟨g, 0, none⟩ : Addr).add j = ⟨g, j, none⟩ := by rw [add_at, Nat.zero_add]
/-- The slice's head and its cells. -/
theorem own_some (h : w.ownsRow base e size v n xs) (hn : 0 < n) : ∃ g cap, v = .slice (some ⟨g, 0, none⟩) n cap ∧ base ≤ g ∧ g < w.heap.size ∧ n ≤ cap ∧ (∀ j u, xs[j]? = some u → w.cell? ⟨g, j, none⟩ = some u) ∧ ∀ o, w.frozen? ⟨g, o, none⟩ = false := by
  have hc := fun g hg => h.cells (g := g) hg
  rcases h.2 with ⟨_, rfl⟩ | ⟨g, cap, cur, rfl, hb, hg, hnc, _⟩
  · omega
  · exact ⟨g, cap, rfl, hb, (Array.getElem?_eq_some_iff.1 hg).1, hnc, fun j u hu => by have := hc g rfl j u hu; rwa [add_at0] at this, fun o => by simp [World.frozen?, hg]⟩
theorem own_val (h : w.ownsRow base e size v n xs) : ∃ p cap, v = .slice p n cap := by
  rcases h.2 with ⟨rfl, rfl⟩ | ⟨g, cap, cur, rfl, _⟩
  · exact ⟨_, _, rfl⟩
  · exact ⟨_, _, rfl⟩
end
/-! ### blocks of one's own, beside what others do -/
/-- These blocks are as they were. -/
def Same (X : Nat → Prop) (u u' : World) : Prop := ∀ b, X b → u'.heap[b]? = u.heap[b]?
theorem Same.cell {X : Nat → Prop} {u u' : World} (h : Same X u u') {a : Addr} (ha : X a.block) : u'.cell? a = u.cell? a := by unfold World.cell?; rw [h _ ha]
theorem Same.trans {X Y : Nat → Prop} {u u' u'' : World} (h : Same X u u') (k : Same Y u' u'') (hXY : ∀ b, X b → Y b) : Same X u u'' := fun b hb => (k b (hXY b hb)).trans (h b hb)
theorem Same.set {X : Nat → Prop} {u u' : World} (h : Same X u u') {a : Addr} (v : Value) (ha : ¬ X a.block) : Same X u (u'.setCell a v) := fun b hb => (heap_setCell_ne (fun e => ha (e ▸ hb))).trans (h b hb)
theorem Same.alloc {X : Nat → Prop} {u u' : World} (h : Same X u u') (o : Obj) (hl : ∀ b, X b → b < u'.heap.size) : Same X u (u'.alloc o) := fun b hb => (heap_alloc_other u' o (by have := hl b hb; omega)).trans (h b hb)
theorem Same.frozen {X : Nat → Prop} {u u' : World} (h : Same X u u') {a : Addr} (ha : X a.block) : u'.frozen? a = u.frozen? a := by unfold World.frozen?; rw [h _ ha]
/-- 'Kp X': the blocks of X are one's own; I does not look at them. -/
structure StabK {S : Type} (Kp : (Nat → Prop) → S → World → Prop) (I : S → World → Prop) : Prop where
  fresh : ∀ {X s u} (o : Obj), I s u → Kp X s u → Kp (fun b => X b ∨ b = u.heap.size) s (u.alloc o)
  low : ∀ {X s u b}, Kp X s u → X b → b < u.heap.size
  anti : ∀ {X Y s u}, Kp X s u → (∀ b, Y b → X b) → Kp Y s u
  kset : ∀ {X s u} (a : Addr) (v : Value), Kp X s u → Kp X s (u.setCell a v)
  al : ∀ {s u} (o : Obj), I s u → I s (u.alloc o)
  st : ∀ {X s u} (a : Addr) (v : Value), Kp X s u → I s u → X a.block → I s (u.setCell a v)
section
variable {P : Program} {S : Type} {E : Eng P S} {fn : FuncId} {Q : S → Exit → Act → World → Prop} {σ : S} {a : Act} {w : World} {ops : Array Oper} {i : Nat} {rest : List Nat}
/-- A store of three cells. -/
theorem opsY_store3 {t : TypeId} {x y : Operand} {b o : Nat} {v0 v1 v2 u0 u1 u2 : Value} {dst : Option Tmp} {ty : TypeId} {pos : String} {af : Array Edge} {gu : Option (Nat × Bool)} (ho : ops[i]? = some ⟨dst, .store t x y, ty, pos, af, gu⟩) (hw : Region.wanted ⟨dst, .store t x y, ty, pos, af, gu⟩ (yielded ops a.tmps) = true)
    (hx : a.eval x = .pointer (some ⟨b, o, none⟩)) (hy : a.eval y = .agg #[v0, v1, v2]) (hsz : (P.info? t).map (·.size) = some 3) (hv0 : v0.oneCell' = true) (hv1 : v1.oneCell' = true) (hv2 : v2.oneCell' = true)
    (h0 : w.cell? ⟨b, o, none⟩ = some u0) (h1 : w.cell? ⟨b, o + 1, none⟩ = some u1) (h2 : w.cell? ⟨b, o + 2, none⟩ = some u2) (hz : ∀ o, w.frozen? ⟨b, o, none⟩ = false)
    (hs : ∀ o, ¬ E.still σ ⟨b, o, none⟩) (h : OpsY E fn ops rest Q σ (a.put dst undef) (((w.setCell ⟨b, o, none⟩ v0).setCell ⟨b, o + 1, none⟩ v1).setCell ⟨b, o + 2, none⟩ v2)) : OpsY E fn ops (i :: rest) Q σ a w :=
  opsY_storeN (vs := [v0, v1, v2]) ho hw (World.block_lt_of_cell? _ _ h0) hx hy rfl hsz (fun u hu => by simp at hu; rcases hu with rfl | rfl | rfl <;> assumption)
    (fun j hj => by
      have : j = 0 ∨ j = 1 ∨ j = 2 := by simp at hj; omega
      rcases this with rfl | rfl | rfl
      · simp [h0]
      · simp [h1]
      · simp [h2]) (fun j hj => hz _) hs h
theorem opY_storeN {K : S → Act → World → Prop} {t : TypeId} {x y : Operand} {b o : Nat} {v : Value} {vs : List Value} {dst : Option Tmp} {ty : TypeId} {pos : String} {af : Array Edge} {gu : Option (Nat × Bool)} (ho : ops[i]? = some ⟨dst, .store t x y, ty, pos, af, gu⟩) (hw : Region.wanted ⟨dst, .store t x y, ty, pos, af, gu⟩ (yielded ops a.tmps) = true)
    (hblt : b < w.heap.size) (hx : a.eval x = .pointer (some ⟨b, o, none⟩)) (hy : a.eval y = v) (hvs : v.cells = vs.toArray) (hsz : (P.info? t).map (·.size) = some vs.length) (hv1 : ∀ u ∈ vs, u.oneCell' = true)
    (hc : ∀ j, j < vs.length → (w.cell? ⟨b, o + j, none⟩).isSome = true) (hz : ∀ j, j < vs.length → w.frozen? ⟨b, o + j, none⟩ = false)
    (hs : ∀ o, ¬ E.still σ ⟨b, o, none⟩) (h : K σ (a.put dst undef) (w.setCells b o vs)) : OpY E Q ops i K σ a w := by
  unfold OpY
  simp only [ho, hw, if_true]
  have hl : v.cells.toList = vs := by rw [hvs]
  have hsize : v.cells.size = vs.length := by rw [hvs]; simp
  obtain ⟨h1, h2⟩ := storeOp_many (P := P) (w := w) (dst := dst) (ty := ty) (pos := pos) (af := af) (gu := gu) (by rw [hsize]; exact hsz) hx hy (by rw [hl]; exact hv1) (by rw [hsize]; exact hc) (by rw [hsize]; exact hz)
  rw [hl] at h1
  have hd : ∀ (vs : List Value) (o : Nat) (w : World), (w.setCells b o vs).drawn = w.drawn := by
    intro vs
    induction vs with
    | nil => intro o w; rfl
    | cons v vs ih => intro o w; exact ih (o + 1) (w.setCell ⟨b, o, none⟩ v)
  have hnm : NoMark ((execOp a.eval ⟨dst, .store t x y, ty, pos, af, gu⟩).events P w #[]) := fun e he m hl => by obtain ⟨j, hj⟩ := h2 e he; rw [hj] at hl; cases hl
  exact .inr (.inl ⟨w.setCells b o vs, _, ns_storeOp, by rw [Sem.runT_eq, h1], hd _ _ _, setCells_ok hs _ _ _ _ hblt h2, hnm, h⟩)
theorem opY_store3 {K : S → Act → World → Prop} {t : TypeId} {x y : Operand} {b o : Nat} {v0 v1 v2 u0 u1 u2 : Value} {dst : Option Tmp} {ty : TypeId} {pos : String} {af : Array Edge} {gu : Option (Nat × Bool)} (ho : ops[i]? = some ⟨dst, .store t x y, ty, pos, af, gu⟩) (hw : Region.wanted ⟨dst, .store t x y, ty, pos, af, gu⟩ (yielded ops a.tmps) = true)
    (hx : a.eval x = .pointer (some ⟨b, o, none⟩)) (hy : a.eval y = .agg #[v0, v1, v2]) (hsz : (P.info? t).map (·.size) = some 3) (hv0 : v0.oneCell' = true) (hv1 : v1.oneCell' = true) (hv2 : v2.oneCell' = true)
    (h0 : w.cell? ⟨b, o, none⟩ = some u0) (h1 : w.cell? ⟨b, o + 1, none⟩ = some u1) (h2 : w.cell? ⟨b, o + 2, none⟩ = some u2) (hz : ∀ o, w.frozen? ⟨b, o, none⟩ = false)
    (hs : ∀ o, ¬ E.still σ ⟨b, o, none⟩) (h : K σ (a.put dst undef) (((w.setCell ⟨b, o, none⟩ v0).setCell ⟨b, o + 1, none⟩ v1).setCell ⟨b, o + 2, none⟩ v2)) : OpY E Q ops i K σ a w :=
  opY_storeN (vs := [v0, v1, v2]) ho hw (World.block_lt_of_cell? _ _ h0) hx hy rfl hsz (fun u hu => by simp at hu; rcases hu with rfl | rfl | rfl <;> assumption)
    (fun j hj => by
      have : j = 0 ∨ j = 1 ∨ j = 2 := by simp at hj; omega
      rcases this with rfl | rfl | rfl
      · simp [h0]
      · simp [h1]
      · simp [h2]) (fun j hj => hz _) hs h
end
/-! ### a load of many cells -/
section
variable {P : Program} {S : Type} {E : Eng P S} {fn : FuncId} {Q : S → Exit → Act → World → Prop} {σ : S} {a : Act} {w : World} {ops : Array Oper} {i : Nat} {rest : List Nat}
theorem run_loadVarN {t : TypeId} {b o n : Nat} {f : Nat → Value} (hag : (isAgg t).run P w = .ok true w) (hsz : (sizeOf t).run P w = .ok n w) (hc : ∀ j, j < n → w.cell? ⟨b, o + j, none⟩ = some (f j)) :
    (loadVar t ⟨b, o, none⟩).run P w = .ok (.agg ((List.range n).map f).toArray) w := by
  have h := run_loadCells (P := P) w ⟨b, o, none⟩ n f (fun j hj => by rw [add_at]; exact hc j hj)
  simp [loadVar, hag, hsz, h]
theorem opsY_loadN {t : TypeId} {x : Operand} {b o n : Nat} {f : Nat → Value} {dst : Option Tmp} {ty : TypeId} {pos : String} {af : Array Edge} {gu : Option (Nat × Bool)} (hag : (isAgg t).run P w = .ok true w) (hsz : (sizeOf t).run P w = .ok n w) (hc : ∀ j, j < n → w.cell? ⟨b, o + j, none⟩ = some (f j))
    (ho : ops[i]? = some ⟨dst, .load t x, ty, pos, af, gu⟩) (hw : Region.wanted ⟨dst, .load t x, ty, pos, af, gu⟩ (yielded ops a.tmps) = true) (hnw : Nw (execOp a.eval ⟨dst, .load t x, ty, pos, af, gu⟩)) (hx : a.eval x = .pointer (some ⟨b, o, none⟩))
    (h : OpsY E fn ops rest Q σ (a.put dst (.agg ((List.range n).map f).toArray)) w) : OpsY E fn ops (i :: rest) Q σ a w := by
  have hl := run_loadVarN (P := P) (w := w) (t := t) hag hsz hc
  refine opsY_nw ho hw hnw (fun K hK => ?_)
  have : (execOp a.eval ⟨dst, .load t x, ty, pos, af, gu⟩).run P w = .ok (.value (.agg ((List.range n).map f).toArray)) w := by
    simp only [execOp, Instr.loadAt, Instr.sureAddr, hx]
    simp [hl]
  rw [this, uponK_value]
  exact hK _ _ ⟨rfl, fun _ => h⟩
/-- Results, one of which is a variable of many cells. -/
theorem results_cN {fn : Func} {tmps : Array Value} {r t b n : Nat} {ty : TypeId} {f : Nat → Value} (h : fn.results = #[.cell r ty, .tmp t]) (hr : tmps.getD r undef = .pointer (some ⟨b, 0, none⟩))
    (hag : (isAgg ty).run P w = .ok true w) (hsz : (sizeOf ty).run P w = .ok n w) (hc : ∀ j, j < n → w.cell? ⟨b, j, none⟩ = some (f j)) : (results fn tmps).run P w = .ok (.tuple #[.agg ((List.range n).map f).toArray, tmps.getD t undef]) w := by
  have hr' : tmps[r]?.getD undef = .pointer (some ⟨b, 0, none⟩) := by rw [← hr, Array.getD_eq_getD_getElem?]
  have hl := run_loadVarN (P := P) (w := w) (t := ty) (o := 0) hag hsz (fun j hj => by rw [Nat.zero_add]; exact hc j hj)
  simp [results, h, hr', asAddr, hl]
theorem results_c1 {fn : Func} {tmps : Array Value} {r b n : Nat} {ty : TypeId} {f : Nat → Value} (h : fn.results = #[.cell r ty]) (hr : tmps.getD r undef = .pointer (some ⟨b, 0, none⟩))
    (hag : (isAgg ty).run P w = .ok true w) (hsz : (sizeOf ty).run P w = .ok n w) (hc : ∀ j, j < n → w.cell? ⟨b, j, none⟩ = some (f j)) : (results fn tmps).run P w = .ok (.agg ((List.range n).map f).toArray) w := by
  have hr' : tmps[r]?.getD undef = .pointer (some ⟨b, 0, none⟩) := by rw [← hr, Array.getD_eq_getD_getElem?]
  have hl := run_loadVarN (P := P) (w := w) (t := ty) (o := 0) hag hsz (fun j hj => by rw [Nat.zero_add]; exact hc j hj)
  simp [results, h, hr', asAddr, hl]
/-- The cells behind a store of many. -/
theorem cell_setCells {b : Nat} {vs : List Value} (hc : ∀ j, j < vs.length → (w.cell? ⟨b, j, none⟩).isSome = true) {j : Nat} {v : Value} (hv : vs[j]? = some v) : (w.setCells b 0 vs).cell? ⟨b, j, none⟩ = some v := by
  obtain ⟨hj, rfl⟩ := List.getElem?_eq_some_iff.1 hv
  have := World.cell?_setCells_in b vs 0 w (fun j hj => by rw [Nat.zero_add]; exact hc j hj) j hj
  rw [Nat.zero_add] at this
  exact this
end
/-- The cells of a structure of three. -/
theorem three_alloc (w : World) (u v x : Value) (t : TypeId) : (w.alloc (.cells #[u, v, x] t (0, 0))).cell? ⟨w.heap.size, 0, none⟩ = some u ∧ (w.alloc (.cells #[u, v, x] t (0, 0))).cell? ⟨w.heap.size, 1, none⟩ = some v ∧ (w.alloc (.cells #[u, v, x] t (0, 0))).cell? ⟨w.heap.size, 2, none⟩ = some x ∧ ∀ o, (w.alloc (.cells #[u, v, x] t (0, 0))).frozen? ⟨w.heap.size, o, none⟩ = false := by
  have h := heap_alloc_self w (.cells #[u, v, x] t (0, 0))
  refine ⟨?_, ?_, ?_, fun o => ?_⟩
  · unfold World.cell?; simp only; rw [h]; rfl
  · unfold World.cell?; simp only; rw [h]; rfl
  · unfold World.cell?; simp only; rw [h]; rfl
  · unfold World.frozen?; simp only; rw [h]; simp
theorem cell_alloc {w : World} {a : Addr} {v : Value} (o : Obj) (h : w.cell? a = some v) : (w.alloc o).cell? a = some v := ((Chg.refl (fun _ => False) w).alloc o).cell_is h (fun x => x)
theorem StabK.cells {S : Type} {Kp : (Nat → Prop) → S → World → Prop} {I : S → World → Prop} (h : StabK Kp I) {X : Nat → Prop} {s : S} {b : Nat} (hb : X b) : ∀ (vs : List Value) (o : Nat) (u : World), Kp X s u → I s u → Kp X s (u.setCells b o vs) ∧ I s (u.setCells b o vs)
  | [], _, _, hk, hi => ⟨hk, hi⟩
  | v :: vs, o, u, hk, hi => h.cells hb vs (o + 1) (u.setCell ⟨b, o, none⟩ v) (h.kset _ _ hk) (h.st _ _ hk hi hb)
theorem Same.cells {X : Nat → Prop} {u : World} {b : Nat} (hb : ¬ X b) : ∀ (vs : List Value) (o : Nat) (u' : World), Same X u u' → Same X u (u'.setCells b o vs)
  | [], _, _, h => h
  | v :: vs, o, u', h => Same.cells hb vs (o + 1) (u'.setCell ⟨b, o, none⟩ v) (h.set (a := ⟨b, o, none⟩) v hb)
end Go.Proofs.Ythnfheohfnhcpaa.Y
