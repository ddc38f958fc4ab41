/- The levels that age: where they lie; a position's place; the next position to put at. -/
import Derived.Test.YthnfheohfnhcpaaNum
import Derived.Test.YthnfheohfnhcpaaPan
import Derived.Test.YthnfheohfnhcpaaProg
import Derived.WalkKit
set_option linter.unusedSimpArgs false
set_option linter.unusedVariables false
set_option maxRecDepth 20000
set_option maxHeartbeats 4000000
namespace Go.Proofs.Ythnfheohfnhcpaa.Y
open Go Go.Conc Go.Proofs
variable {S : Type} {E : Eng Try.prog S} {pan : S → List PanicEntry → World → Prop}

/-- Where a Prio lies: its block, the row of its levels, the levels' blocks, their rows of places; its cells' blocks by their numbers. -/
structure PA where
  p : Nat
  gl : Nat
  gc : Nat
  lb : Nat → Nat
  gp : Nat → Nat
  pc : Nat → Nat
  cb : Nat → Nat
  L : Nat
  room : Nat
def PA.cin (A : PA) (i : Nat) : Nat := 1 + i * (2 + 3 * A.room)
def PA.N (A : PA) : Nat := 1 + A.L * (2 + 3 * A.room)
theorem PA.cin_lt (A : PA) {i j : Nat} (hi : i < A.L) (hj : j < 2 + 3 * A.room) : A.cin i + j < A.N := by
  unfold PA.cin PA.N
  have : (i + 1) * (2 + 3 * A.room) ≤ A.L * (2 + 3 * A.room) := Nat.mul_le_mul_right _ hi
  rw [Nat.add_mul] at this
  omega
structure PM (w : World) (A : PA) : Prop where
  tk : w.cell? ⟨A.p, 0, none⟩ = some (.pointer (some ⟨A.cb 0, 0, none⟩))
  lvs : w.cell? ⟨A.p, 1, none⟩ = some (.slice (some ⟨A.gl, 0, none⟩) A.L A.gc)
  row : ∀ i, i < A.L → w.cell? ⟨A.gl, i, none⟩ = some (.pointer (some ⟨A.lb i, 0, none⟩))
  inn : ∀ i, i < A.L → w.cell? ⟨A.lb i, 0, none⟩ = some (.pointer (some ⟨A.cb (A.cin i), 0, none⟩))
  out : ∀ i, i < A.L → w.cell? ⟨A.lb i, 1, none⟩ = some (.pointer (some ⟨A.cb (A.cin i + 1), 0, none⟩))
  pls : ∀ i, i < A.L → w.cell? ⟨A.lb i, 2, none⟩ = some (.slice (some ⟨A.gp i, 0, none⟩) A.room (A.pc i))
  place : ∀ i, i < A.L → ∀ j, j < 3 * A.room → w.cell? ⟨A.gp i, j, none⟩ = some (.pointer (some ⟨A.cb (A.cin i + 2 + j), 0, none⟩))
theorem PM.kept {w w' : World} {A : PA} {T : Nat → Prop} (h : PM w A) (c : Chg T w w') (h1 : ¬ T A.p) (h2 : ¬ T A.gl) (h3 : ∀ i, i < A.L → ¬ T (A.lb i)) (h4 : ∀ i, i < A.L → ¬ T (A.gp i)) : PM w' A :=
  ⟨c.cell_is h.tk h1, c.cell_is h.lvs h1, fun i hi => c.cell_is (h.row i hi) h2, fun i hi => c.cell_is (h.inn i hi) (h3 i hi), fun i hi => c.cell_is (h.out i hi) (h3 i hi), fun i hi => c.cell_is (h.pls i hi) (h3 i hi), fun i hi j hj => c.cell_is (h.place i hi j hj) (h4 i hi)⟩
/-- A cell's block is none of its structure. -/
theorem PM.sep {w : World} {A : PA} (h : PM w A) {b : Nat} {v : Int} (hb : IsC w b v) (hL : 0 < A.L) (hr : 0 < A.room) : b ≠ A.p ∧ b ≠ A.gl ∧ (∀ i, i < A.L → b ≠ A.lb i) ∧ ∀ i, i < A.L → b ≠ A.gp i := by
  have hv := hb.v
  refine ⟨fun e => ?_, fun e => ?_, fun i hi e => ?_, fun i hi e => ?_⟩
  · subst e; have := h.tk; rw [hv] at this; cases this
  · subst e; have := h.row 0 hL; rw [hv] at this; cases this
  · subst e; have := h.inn i hi; rw [hv] at this; cases this
  · subst e; have := h.place i hi 0 (by omega); rw [hv] at this; cases this
/-- The structure and its cells. -/
structure PW (w : World) (A : PA) (val : Nat → Int) : Prop where
  m : PM w A
  n : Nums w A.cb A.N val
  L0 : 0 < A.L
  L1 : A.L ≤ 8
  r0 : 2 ≤ A.room
  r1 : A.room ≤ 4096
theorem PW.set {w : World} {A : PA} {val : Nat → Int} (h : PW w A val) {k : Nat} (hk : k < A.N) (x : Int) : PW (w.setCell ⟨A.cb k, 0, none⟩ (.int .i64 x)) A (upd1 val k x) := by
  obtain ⟨s1, s2, s3, s4⟩ := h.m.sep (h.n.cell k hk) h.L0 (by have := h.r0; omega)
  have hc : Chg (fun b => b = A.cb k) w (w.setCell ⟨A.cb k, 0, none⟩ (.int .i64 x)) := (Chg.refl _ w).setCell (a := ⟨A.cb k, 0, none⟩) _ (.inl rfl)
  exact ⟨h.m.kept hc (fun e => s1 e.symm) (fun e => s2 e.symm) (fun i hi e => s3 i hi e.symm) (fun i hi e => s4 i hi e.symm), h.n.set hk x, h.L0, h.L1, h.r0, h.r1⟩

theorem at_is {σ : S} {w : World} {A : PA} {i k : Nat} {x : Int} (h : PM w A) (hi : i < A.L) (hk : k < A.room) (hr : A.room ≤ 4096) (hx : Go.bits .and .i64 x ((A.room : Int) - 1) = (k : Int)) :
    CallTo E 131 #[.pointer (some ⟨A.lb i, 0, none⟩), .int .i64 x] σ w σ (.pointer (some ⟨A.gp i, k * 3, none⟩)) w := by
  have h1 := h.pls i hi
  have hw := wrap64 (x := (A.room : Int) - 1) (by omega) (by omega)
  have hk0 : (0 : Int) ≤ k := by omega
  have hk1 : (k : Int) < A.room := by omega
  refine callTo_of Try.func131 (by kernel_rfl) rfl ?_; simp only [Try.ntmps131, List.size_toArray, List.length_cons, List.length_nil, Nat.reduceAdd, Nat.reduceSub, Array.replicate_succ, Array.replicate_zero, List.push_toArray, List.append_toArray, List.nil_append, List.cons_append]
  repeat (first | (first | refine codeY_seq ?_ | refine codeY_block ?_ | refine codeY_ret ?_ | refine codeY_skip ?_ | refine codeY_exit ?_ | refine codeY_label ?_ | refine thenY_n ?_ | refine thenY_e ?_ | refine thenY_r ?_ | refine blockY_n ?_ | refine blockY_e ?_ | refine blockY_r ?_ | refine blockY_o rfl ?_ | refine codeY_condT rfl ?_ | refine codeY_condF rfl ?_) | (refine codeY_region_k (fun K hK => ?_); simp only [List.size_toArray, List.length_cons, List.length_nil, Nat.reduceAdd, Nat.zero_add, List.range, List.range.loop]) | (refine opsY_nil ?_; refine hK _ _ _ _ ?_; clear hK K) | (first | (first | (refine opsY_move rfl rfl ?_; walk_nrm) | (refine opsY_assign rfl rfl ?_; walk_nrm)) | (refine opsY_unwanted rfl rfl ?_; walk_nrm) | (refine opsY_nw rfl rfl (nw_of (by rfl)) (fun Ky hKy => ?_); go_simp; refine hKy _ _ ⟨rfl, fun Kx => ?_⟩; clear Kx hKy Ky)))
  (refine codeY_drawn_k (fun u : World => u.cell? ⟨A.lb i, 2, none⟩ = some (.slice (some ⟨A.gp i, 0, none⟩) A.room (A.pc i))) (by kernel_rfl) (fun K hK => ?_); simp only [List.size_toArray, List.length_cons, List.length_nil, Nat.reduceAdd, Nat.zero_add, Array.replicate_succ, Array.replicate_zero, List.push_toArray, List.nil_append, List.cons_append])
  (first | (refine anyY_take (i := 0) rfl (by kernel_rfl) (by kernel_rfl) (by decide +kernel) (by kernel_rfl) (.inl ⟨rfl, trivial, fun Cw hCw => rfl⟩) h1 ?_; walk_nrm; try (simp only [List.setIfInBounds_toArray, List.set_cons_zero, List.set_cons_succ])) | (refine anyY_one (i := 0) (by kernel_rfl) ?_; (first | refine opY_nw rfl rfl (show Nw _ from trivial) (fun Ky hKy => ?_) | refine opY_nw rfl rfl (nw_of (by rfl)) (fun Ky hKy => ?_)); go_simp; refine hKy _ _ ⟨rfl, ?_⟩; clear hKy Ky; refine ⟨.inr h1, ?_⟩; walk_nrm; try (simp only [List.setIfInBounds_toArray, List.set_cons_zero, List.set_cons_succ])))
  (first | (refine anyY_take (i := 1) rfl (by kernel_rfl) (by kernel_rfl) (by decide +kernel) (by kernel_rfl) (.inl ⟨rfl, by exact nw_of (by rfl), fun Cw hCw => by go_simp; try rfl⟩) h1 ?_; walk_nrm; try (simp only [List.setIfInBounds_toArray, List.set_cons_zero, List.set_cons_succ])) | (refine anyY_one (i := 1) (by kernel_rfl) ?_; (first | refine opY_nw rfl rfl (show Nw _ from trivial) (fun Ky hKy => ?_) | refine opY_nw rfl rfl (nw_of (by rfl)) (fun Ky hKy => ?_)); go_simp; refine hKy _ _ ⟨rfl, ?_⟩; clear hKy Ky; refine ⟨.inr h1, ?_⟩; walk_nrm; try (simp only [List.setIfInBounds_toArray, List.set_cons_zero, List.set_cons_succ])))
  (first | (refine anyY_take (i := 2) rfl (by kernel_rfl) (by kernel_rfl) (by decide +kernel) (by kernel_rfl) (.inl ⟨rfl, by exact nw_of (by rfl), fun Cw hCw => by go_simp; try rfl⟩) h1 ?_; walk_nrm; try (simp only [List.setIfInBounds_toArray, List.set_cons_zero, List.set_cons_succ])) | (refine anyY_one (i := 2) (by kernel_rfl) ?_; (first | refine opY_nw rfl rfl (show Nw _ from trivial) (fun Ky hKy => ?_) | refine opY_nw rfl rfl (nw_of (by rfl)) (fun Ky hKy => ?_)); go_simp; refine hKy _ _ ⟨rfl, ?_⟩; clear hKy Ky; refine ⟨.inr h1, ?_⟩; walk_nrm; try (simp only [List.setIfInBounds_toArray, List.set_cons_zero, List.set_cons_succ])))
  (first | (refine anyY_take (i := 3) rfl (by kernel_rfl) (by kernel_rfl) (by decide +kernel) (by kernel_rfl) (.inl ⟨rfl, by exact nw_of (by rfl), fun Cw hCw => by go_simp; try rfl⟩) h1 ?_; walk_nrm; try (simp only [List.setIfInBounds_toArray, List.set_cons_zero, List.set_cons_succ])) | (refine anyY_one (i := 3) (by kernel_rfl) ?_; (first | refine opY_nw rfl rfl (show Nw _ from trivial) (fun Ky hKy => ?_) | refine opY_nw rfl rfl (nw_of (by rfl)) (fun Ky hKy => ?_)); go_simp; refine hKy _ _ ⟨rfl, ?_⟩; clear hKy Ky; refine ⟨.inr h1, ?_⟩; walk_nrm; try (simp only [List.setIfInBounds_toArray, List.set_cons_zero, List.set_cons_succ])))
  (first | (refine anyY_take (i := 4) rfl (by kernel_rfl) (by kernel_rfl) (by decide +kernel) (by kernel_rfl) (.inl ⟨rfl, trivial, fun Cw hCw => rfl⟩) h1 ?_; walk_nrm; try (simp only [List.setIfInBounds_toArray, List.set_cons_zero, List.set_cons_succ])) | (refine anyY_one (i := 4) (by kernel_rfl) ?_; (first | refine opY_nw rfl rfl (show Nw _ from trivial) (fun Ky hKy => ?_) | refine opY_nw rfl rfl (nw_of (by rfl)) (fun Ky hKy => ?_)); go_simp; refine hKy _ _ ⟨rfl, ?_⟩; clear hKy Ky; refine ⟨.inr h1, ?_⟩; walk_nrm; try (simp only [List.setIfInBounds_toArray, List.set_cons_zero, List.set_cons_succ])))
  (first | (refine anyY_take (i := 5) rfl (by kernel_rfl) (by kernel_rfl) (by decide +kernel) (by kernel_rfl) (.inl ⟨rfl, trivial, fun Cw hCw => rfl⟩) h1 ?_; walk_nrm; try (simp only [List.setIfInBounds_toArray, List.set_cons_zero, List.set_cons_succ])) | (refine anyY_one (i := 5) (by kernel_rfl) ?_; (first | refine opY_nw rfl rfl (show Nw _ from trivial) (fun Ky hKy => ?_) | refine opY_nw rfl rfl (nw_of (by rfl)) (fun Ky hKy => ?_)); go_simp; refine hKy _ _ ⟨rfl, ?_⟩; clear hKy Ky; refine ⟨.inr h1, ?_⟩; walk_nrm; try (simp only [List.setIfInBounds_toArray, List.set_cons_zero, List.set_cons_succ])))
  (first | (refine anyY_take (i := 6) rfl (by kernel_rfl) (by kernel_rfl) (by decide +kernel) (by kernel_rfl) (.inl ⟨rfl, by exact nw_of (by rfl), fun Cw hCw => by go_simp; try rfl⟩) h1 ?_; walk_nrm; try (simp only [List.setIfInBounds_toArray, List.set_cons_zero, List.set_cons_succ])) | (refine anyY_one (i := 6) (by kernel_rfl) ?_; (first | refine opY_nw rfl rfl (show Nw _ from trivial) (fun Ky hKy => ?_) | refine opY_nw rfl rfl (nw_of (by rfl)) (fun Ky hKy => ?_)); go_simp; refine hKy _ _ ⟨rfl, ?_⟩; clear hKy Ky; refine ⟨.inr h1, ?_⟩; walk_nrm; try (simp only [List.setIfInBounds_toArray, List.set_cons_zero, List.set_cons_succ])))
  (first | (refine anyY_take (i := 7) rfl (by kernel_rfl) (by kernel_rfl) (by decide +kernel) (by kernel_rfl) (.inl ⟨rfl, by exact nw_of (by rfl), fun Cw hCw => by go_simp; try rfl⟩) h1 ?_; walk_nrm; try (simp only [List.setIfInBounds_toArray, List.set_cons_zero, List.set_cons_succ])) | (refine anyY_one (i := 7) (by kernel_rfl) ?_; (first | refine opY_nw rfl rfl (show Nw _ from trivial) (fun Ky hKy => ?_) | refine opY_nw rfl rfl (nw_of (by rfl)) (fun Ky hKy => ?_)); go_simp; refine hKy _ _ ⟨rfl, ?_⟩; clear hKy Ky; refine ⟨.inr h1, ?_⟩; walk_nrm; try (simp only [List.setIfInBounds_toArray, List.set_cons_zero, List.set_cons_succ])))
  (first | (refine anyY_take (i := 8) rfl (by kernel_rfl) (by kernel_rfl) (by decide +kernel) (by kernel_rfl) (.inl ⟨rfl, by exact nw_of (by rfl), fun Cw hCw => by go_simp; try rfl⟩) h1 ?_; walk_nrm; try (simp only [List.setIfInBounds_toArray, List.set_cons_zero, List.set_cons_succ])) | (refine anyY_one (i := 8) (by kernel_rfl) ?_; (first | refine opY_nw rfl rfl (show Nw _ from trivial) (fun Ky hKy => ?_) | refine opY_nw rfl rfl (nw_of (by rfl)) (fun Ky hKy => ?_)); go_simp; refine hKy _ _ ⟨rfl, ?_⟩; clear hKy Ky; refine ⟨.inr h1, ?_⟩; walk_nrm; try (simp only [List.setIfInBounds_toArray, List.set_cons_zero, List.set_cons_succ])))
  (first | (refine anyY_take (i := 9) rfl (by kernel_rfl) (by kernel_rfl) (by decide +kernel) (by kernel_rfl) (.inl ⟨rfl, by exact nw_of (by rfl), fun Cw hCw => by go_simp; try rfl⟩) h1 ?_; walk_nrm; try (simp only [List.setIfInBounds_toArray, List.set_cons_zero, List.set_cons_succ])) | (refine anyY_one (i := 9) (by kernel_rfl) ?_; (first | refine opY_nw rfl rfl (show Nw _ from trivial) (fun Ky hKy => ?_) | refine opY_nw rfl rfl (nw_of (by rfl)) (fun Ky hKy => ?_)); go_simp; refine hKy _ _ ⟨rfl, ?_⟩; clear hKy Ky; refine ⟨.inr h1, ?_⟩; walk_nrm; try (simp only [List.setIfInBounds_toArray, List.set_cons_zero, List.set_cons_succ])))
  (first | (refine anyY_take (i := 10) rfl (by kernel_rfl) (by kernel_rfl) (by decide +kernel) (by kernel_rfl) (.inl ⟨rfl, by exact nw_of (by rfl), fun Cw hCw => by go_simp; try rfl⟩) h1 ?_; walk_nrm; try (simp only [List.setIfInBounds_toArray, List.set_cons_zero, List.set_cons_succ])) | (refine anyY_one (i := 10) (by kernel_rfl) ?_; (first | refine opY_nw rfl rfl (show Nw _ from trivial) (fun Ky hKy => ?_) | refine opY_nw rfl rfl (nw_of (by rfl)) (fun Ky hKy => ?_)); go_simp; refine hKy _ _ ⟨rfl, ?_⟩; clear hKy Ky; refine ⟨.inr h1, ?_⟩; walk_nrm; try (simp only [List.setIfInBounds_toArray, List.set_cons_zero, List.set_cons_succ])))
  (first | (refine anyY_take (i := 11) rfl (by kernel_rfl) (by kernel_rfl) (by decide +kernel) (by kernel_rfl) (.inl ⟨rfl, by exact nw_of (by rfl), fun Cw hCw => by go_simp; try rfl⟩) h1 ?_; walk_nrm; try (simp only [List.setIfInBounds_toArray, List.set_cons_zero, List.set_cons_succ])) | (refine anyY_one (i := 11) (by kernel_rfl) ?_; (first | refine opY_nw rfl rfl (show Nw _ from trivial) (fun Ky hKy => ?_) | refine opY_nw rfl rfl (nw_of (by rfl)) (fun Ky hKy => ?_)); go_simp; refine hKy _ _ ⟨rfl, ?_⟩; clear hKy Ky; refine ⟨.inr h1, ?_⟩; walk_nrm; try (simp only [List.setIfInBounds_toArray, List.set_cons_zero, List.set_cons_succ])))
  (first | (refine anyY_take (i := 12) rfl (by kernel_rfl) (by kernel_rfl) (by decide +kernel) (by kernel_rfl) (.inl ⟨rfl, by exact nw_of (by rfl), fun Cw hCw => by go_simp; try rfl⟩) h1 ?_; walk_nrm; try (simp only [List.setIfInBounds_toArray, List.set_cons_zero, List.set_cons_succ])) | (refine anyY_one (i := 12) (by kernel_rfl) ?_; (first | refine opY_nw rfl rfl (show Nw _ from trivial) (fun Ky hKy => ?_) | refine opY_nw rfl rfl (nw_of (by rfl)) (fun Ky hKy => ?_)); go_simp; refine hKy _ _ ⟨rfl, ?_⟩; clear hKy Ky; refine ⟨.inr h1, ?_⟩; walk_nrm; try (simp only [List.setIfInBounds_toArray, List.set_cons_zero, List.set_cons_succ])))
  (first | (refine anyY_take (i := 13) rfl (by kernel_rfl) (by kernel_rfl) (by decide +kernel) (by kernel_rfl) (.inl ⟨rfl, trivial, fun Cw hCw => rfl⟩) h1 ?_; walk_nrm; try (simp only [List.setIfInBounds_toArray, List.set_cons_zero, List.set_cons_succ])) | (refine anyY_one (i := 13) (by kernel_rfl) ?_; (first | refine opY_nw rfl rfl (show Nw _ from trivial) (fun Ky hKy => ?_) | refine opY_nw rfl rfl (nw_of (by rfl)) (fun Ky hKy => ?_)); go_simp; refine hKy _ _ ⟨rfl, ?_⟩; clear hKy Ky; refine ⟨.inr h1, ?_⟩; walk_nrm; try (simp only [List.setIfInBounds_toArray, List.set_cons_zero, List.set_cons_succ])))
  refine anyY_done (by kernel_rfl) (hK _ _ _ _ ?_) _
  clear hK K
  repeat (first | (first | refine codeY_seq ?_ | refine codeY_block ?_ | refine codeY_ret ?_ | refine codeY_skip ?_ | refine codeY_exit ?_ | refine codeY_label ?_ | refine thenY_n ?_ | refine thenY_e ?_ | refine thenY_r ?_ | refine blockY_n ?_ | refine blockY_e ?_ | refine blockY_r ?_ | refine blockY_o rfl ?_ | refine codeY_condT rfl ?_ | refine codeY_condF rfl ?_) | (refine codeY_region_k (fun K hK => ?_); simp only [List.size_toArray, List.length_cons, List.length_nil, Nat.reduceAdd, Nat.zero_add, List.range, List.range.loop]) | (refine opsY_nil ?_; refine hK _ _ _ _ ?_; clear hK K) | (first | (first | (refine opsY_move rfl rfl ?_; walk_nrm) | (refine opsY_assign rfl rfl ?_; walk_nrm)) | (refine opsY_unwanted rfl rfl ?_; walk_nrm) | (refine opsY_nw rfl rfl (nw_of (by rfl)) (fun Ky hKy => ?_); go_simp; refine hKy _ _ ⟨rfl, fun Kx => ?_⟩; clear Kx hKy Ky)))
  ((first | refine bodyY_ret rfl (results_1 Try.results131) ?_ | refine bodyY_ret rfl (results_0 Try.results131) ?_ | refine bodyY_ret rfl (results_2 Try.results131) ?_ | refine bodyY_ret rfl (results_3 Try.results131) ?_ | refine bodyY_end rfl (results_1 Try.results131) ?_ | refine bodyY_end rfl (results_0 Try.results131) ?_ | refine bodyY_end rfl (results_2 Try.results131) ?_ | refine bodyY_end rfl (results_3 Try.results131) ?_); exact ⟨rfl, rfl, rfl⟩)
end Go.Proofs.Ythnfheohfnhcpaa.Y
