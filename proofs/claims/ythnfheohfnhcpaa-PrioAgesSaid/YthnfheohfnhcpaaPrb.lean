/- The levels that age: the next position to put at; a put: by what its accesses do. -/
import Derived.Test.YthnfheohfnhcpaaPra
set_option linter.unusedSimpArgs false
set_option linter.unusedVariables false
set_option maxRecDepth 20000
set_option maxHeartbeats 4000000
namespace Go.Proofs.Ythnfheohfnhcpaa.Y
open Go Go.Conc Go.Proofs
variable {S : Type} {E : Eng Try.prog S} {pan : S → List PanicEntry → World → Prop}

/-- A position that may be: its place. -/
structure Pos (A : PA) (p : Int) (k : Nat) : Prop where
  lo : 0 ≤ p
  hi : p < 4611686018427387904
  lt : k < A.room
  is : Go.bits .and .i64 p ((A.room : Int) - 1) = (k : Int)
theorem claim_walk {A : PA} {i : Nat} {tv : Value} (hi : i < A.L) (hr : A.room ≤ 4096) (μ : S → World → Nat) {I0 : S → World → Prop} {I1 I2 : Nat → Int → Nat → S → World → Prop} {R : S → Value → World → Prop}
    (m0 : ∀ s u, I0 s u → PM u A) (m1 : ∀ n p k s u, I1 n p k s u → PM u A ∧ Pos A p k) (m2 : ∀ n p k s u, I2 n p k s u → PM u A ∧ Pos A p k)
    (hL : ∀ s u, I0 s u → CallP E pan 121 #[.pointer (some ⟨A.cb (A.cin i), 0, none⟩), tv] s u (fun s' v u' => ∃ p k, v = .int .i64 p ∧ I1 (μ s u) p k s' u'))
    (hT : ∀ n p k s u, I1 n p k s u → CallP E pan 121 #[.pointer (some ⟨A.cb (A.cin i + 2 + k * 3), 0, none⟩), tv] s u (fun s' v u' => ∃ x, v = .int .i64 x ∧ 0 ≤ x ∧ x ≤ 4611686018427387904 ∧ (x < p → R s' (.tuple #[.int .i64 0, .bool false]) u') ∧ (x = p → I2 n p k s' u') ∧ (p < x → I0 s' u' ∧ μ s' u' < n) ∧ PM u' A))
    (hC : ∀ n p k s u, I2 n p k s u → CallP E pan 126 #[.pointer (some ⟨A.cb (A.cin i), 0, none⟩), tv, .int .i64 p, .int .i64 (p + 1)] s u (fun s' v u' => (v = .bool true ∧ R s' (.tuple #[.int .i64 p, .bool true]) u') ∨ (v = .bool false ∧ I0 s' u' ∧ μ s' u' < n))) :
    ∀ s u, I0 s u → CallP E pan 130 #[.pointer (some ⟨A.lb i, 0, none⟩), tv] s u R := by
  intro s u hI
  refine callP_of Try.func130 (by kernel_rfl) rfl ?_; simp only [Try.ntmps130, List.size_toArray, List.length_cons, List.length_nil, Nat.reduceAdd, Nat.reduceSub, Array.replicate_succ, Array.replicate_zero, List.push_toArray, List.append_toArray, List.nil_append, List.cons_append]
  repeat (first | (first | refine codeY_seq ?_ | refine codeY_block ?_ | refine codeY_ret ?_ | refine codeY_skip ?_ | refine codeY_exit ?_ | refine codeY_label ?_ | refine thenY_n ?_ | refine thenY_e ?_ | refine thenY_r ?_ | refine blockY_n ?_ | refine blockY_e ?_ | refine blockY_r ?_ | refine blockY_o rfl ?_ | refine codeY_condT rfl ?_ | refine codeY_condF rfl ?_) | (refine codeY_region_k (fun K hK => ?_); simp only [List.size_toArray, List.length_cons, List.length_nil, Nat.reduceAdd, Nat.zero_add, List.range, List.range.loop]) | (refine opsY_nil ?_; refine hK _ _ _ _ ?_; clear hK K) | (first | (first | (refine opsY_move rfl rfl ?_; walk_nrm) | (refine opsY_assign rfl rfl ?_; walk_nrm)) | (refine opsY_unwanted rfl rfl ?_; walk_nrm) | (refine opsY_nw rfl rfl (nw_of (by rfl)) (fun Ky hKy => ?_); go_simp; refine hKy _ _ ⟨rfl, fun Kx => ?_⟩; clear Kx hKy Ky)))
  refine codeY_loop (fun s a u => I0 s u ∧ ∃ jk : Nat → Value, a = (⟨#[.pointer (some ⟨A.lb i, 0, none⟩), tv, jk 2, jk 3, .int .i64 0, .bool false, jk 6, jk 7, jk 8, jk 9, jk 10, jk 11, jk 12, jk 13, jk 14, jk 15, jk 16, jk 17, jk 18, jk 19, jk 20, jk 21, jk 22, jk 23, jk 24, jk 25, jk 26, jk 27, jk 28, jk 29, jk 30, jk 31, jk 32, jk 33, jk 34, jk 35, jk 36, jk 37, jk 38, jk 39, jk 40, jk 41], []⟩ : Act)) (fun s _ u => μ s u) ⟨hI, junk_intro _ rfl⟩ ?_
  clear hI s u
  rintro s a u ⟨hI, jk, rfl⟩
  have hinn := (m0 s u hI).inn i hi
  repeat (first | (first | refine codeY_seq ?_ | refine codeY_block ?_ | refine codeY_ret ?_ | refine codeY_skip ?_ | refine codeY_exit ?_ | refine codeY_label ?_ | refine thenY_n ?_ | refine thenY_e ?_ | refine thenY_r ?_ | refine blockY_n ?_ | refine blockY_e ?_ | refine blockY_r ?_ | refine blockY_o rfl ?_ | refine codeY_condT rfl ?_ | refine codeY_condF rfl ?_) | (refine codeY_region_k (fun K hK => ?_); simp only [List.size_toArray, List.length_cons, List.length_nil, Nat.reduceAdd, Nat.zero_add, List.range, List.range.loop]) | (refine opsY_nil ?_; refine hK _ _ _ _ ?_; clear hK K) | (first | (first | (refine opsY_move rfl rfl ?_; walk_nrm) | (refine opsY_assign rfl rfl ?_; walk_nrm)) | (refine opsY_unwanted rfl rfl ?_; walk_nrm) | (refine opsY_nw rfl rfl (nw_of (by rfl)) (fun Ky hKy => ?_); go_simp; refine hKy _ _ ⟨rfl, fun Kx => ?_⟩; clear Kx hKy Ky)))
  (refine opsY_callP (hL s u hI) rfl rfl rfl (by first | rfl | (simp [Act.eval]; done) | (simp [Act.eval]; rfl) | (simp [Act.eval]; exact ⟨rfl, rfl⟩)) (fun s_ ch_ u_ hp_ => hK _ _ _ _ (by (repeat (first | refine thenY_p ?_ | refine blockY_p ?_)); exact ⟨rfl, hp_⟩)) ?_)
  rintro s1 v u1 ⟨p, k, rfl, hI1⟩
  obtain ⟨hm1, hp⟩ := m1 _ _ _ _ _ hI1
  clear hinn
  walk_nrm
  repeat (first | (first | refine codeY_seq ?_ | refine codeY_block ?_ | refine codeY_ret ?_ | refine codeY_skip ?_ | refine codeY_exit ?_ | refine codeY_label ?_ | refine thenY_n ?_ | refine thenY_e ?_ | refine thenY_r ?_ | refine blockY_n ?_ | refine blockY_e ?_ | refine blockY_r ?_ | refine blockY_o rfl ?_ | refine codeY_condT rfl ?_ | refine codeY_condF rfl ?_) | (refine codeY_region_k (fun K hK => ?_); simp only [List.size_toArray, List.length_cons, List.length_nil, Nat.reduceAdd, Nat.zero_add, List.range, List.range.loop]) | (refine opsY_nil ?_; refine hK _ _ _ _ ?_; clear hK K) | (first | (first | (refine opsY_move rfl rfl ?_; walk_nrm) | (refine opsY_assign rfl rfl ?_; walk_nrm)) | (refine opsY_unwanted rfl rfl ?_; walk_nrm) | (refine opsY_nw rfl rfl (nw_of (by rfl)) (fun Ky hKy => ?_); go_simp; refine hKy _ _ ⟨rfl, fun Kx => ?_⟩; clear Kx hKy Ky)))
  (refine opsY_callTo (at_is hm1 hi hp.lt hr hp.is) rfl rfl rfl (by first | rfl | (simp [Act.eval]; done) | (simp [Act.eval]; rfl) | (simp [Act.eval]; exact ⟨rfl, rfl⟩)) ?_; walk_nrm)
  have hpl := hm1.place i hi (k * 3) (by have := hp.lt; omega)
  repeat (first | (first | refine codeY_seq ?_ | refine codeY_block ?_ | refine codeY_ret ?_ | refine codeY_skip ?_ | refine codeY_exit ?_ | refine codeY_label ?_ | refine thenY_n ?_ | refine thenY_e ?_ | refine thenY_r ?_ | refine blockY_n ?_ | refine blockY_e ?_ | refine blockY_r ?_ | refine blockY_o rfl ?_ | refine codeY_condT rfl ?_ | refine codeY_condF rfl ?_) | (refine codeY_region_k (fun K hK => ?_); simp only [List.size_toArray, List.length_cons, List.length_nil, Nat.reduceAdd, Nat.zero_add, List.range, List.range.loop]) | (refine opsY_nil ?_; refine hK _ _ _ _ ?_; clear hK K) | (first | (first | (refine opsY_move rfl rfl ?_; walk_nrm) | (refine opsY_assign rfl rfl ?_; walk_nrm)) | (refine opsY_unwanted rfl rfl ?_; walk_nrm) | (refine opsY_nw rfl rfl (nw_of (by rfl)) (fun Ky hKy => ?_); go_simp; refine hKy _ _ ⟨rfl, fun Kx => ?_⟩; clear Kx hKy Ky)))
  (refine opsY_callP (hT _ p k s1 u1 hI1) rfl rfl rfl (by first | rfl | (simp [Act.eval]; done) | (simp [Act.eval]; rfl) | (simp [Act.eval]; exact ⟨rfl, rfl⟩)) (fun s_ ch_ u_ hp_ => hK _ _ _ _ (by (repeat (first | refine thenY_p ?_ | refine blockY_p ?_)); exact ⟨rfl, hp_⟩)) ?_)
  rintro s2 v u2 ⟨x, rfl, hx0, hx1, hlt, heq, hgt, hm2⟩
  clear hpl hm1
  have hp0 := hp.lo
  have hp1 := hp.hi
  have hw := wrap64 (x := x - p) (by omega) (by omega)
  have hw1 := wrap64 (x := p + 1) (by omega) (by omega)
  walk_nrm
  rcases Int.lt_trichotomy x p with h | h | h
  · have hneg : x - p < 0 := by omega
    repeat (first | (first | refine codeY_seq ?_ | refine codeY_block ?_ | refine codeY_ret ?_ | refine codeY_skip ?_ | refine codeY_exit ?_ | refine codeY_label ?_ | refine thenY_n ?_ | refine thenY_e ?_ | refine thenY_r ?_ | refine blockY_n ?_ | refine blockY_e ?_ | refine blockY_r ?_ | refine blockY_o rfl ?_ | refine codeY_condT rfl ?_ | refine codeY_condF rfl ?_) | (refine codeY_region_k (fun K hK => ?_); simp only [List.size_toArray, List.length_cons, List.length_nil, Nat.reduceAdd, Nat.zero_add, List.range, List.range.loop]) | (refine opsY_nil ?_; refine hK _ _ _ _ ?_; clear hK K) | (first | (first | (refine opsY_move rfl rfl ?_; walk_nrm) | (refine opsY_assign rfl rfl ?_; walk_nrm)) | (refine opsY_unwanted rfl rfl ?_; walk_nrm) | (refine opsY_nw rfl rfl (nw_of (by rfl)) (fun Ky hKy => ?_); go_simp; refine hKy _ _ ⟨rfl, fun Kx => ?_⟩; clear Kx hKy Ky)))
    (first | refine bodyY_ret rfl (results_1 Try.results130) ?_ | refine bodyY_ret rfl (results_0 Try.results130) ?_ | refine bodyY_ret rfl (results_2 Try.results130) ?_ | refine bodyY_ret rfl (results_3 Try.results130) ?_ | refine bodyY_end rfl (results_1 Try.results130) ?_ | refine bodyY_end rfl (results_0 Try.results130) ?_ | refine bodyY_end rfl (results_2 Try.results130) ?_ | refine bodyY_end rfl (results_3 Try.results130) ?_)
    exact hlt h
  · have hneg : ¬ x - p < 0 := by omega
    have hzero : (x - p == 0) = true := by simp; omega
    have hI2 := heq h
    have hinn := (m2 _ _ _ _ _ hI2).1.inn i hi
    repeat (first | (first | refine codeY_seq ?_ | refine codeY_block ?_ | refine codeY_ret ?_ | refine codeY_skip ?_ | refine codeY_exit ?_ | refine codeY_label ?_ | refine thenY_n ?_ | refine thenY_e ?_ | refine thenY_r ?_ | refine blockY_n ?_ | refine blockY_e ?_ | refine blockY_r ?_ | refine blockY_o rfl ?_ | refine codeY_condT rfl ?_ | refine codeY_condF rfl ?_) | (refine codeY_region_k (fun K hK => ?_); simp only [List.size_toArray, List.length_cons, List.length_nil, Nat.reduceAdd, Nat.zero_add, List.range, List.range.loop]) | (refine opsY_nil ?_; refine hK _ _ _ _ ?_; clear hK K) | (first | (first | (refine opsY_move rfl rfl ?_; walk_nrm) | (refine opsY_assign rfl rfl ?_; walk_nrm)) | (refine opsY_unwanted rfl rfl ?_; walk_nrm) | (refine opsY_nw rfl rfl (nw_of (by rfl)) (fun Ky hKy => ?_); go_simp; refine hKy _ _ ⟨rfl, fun Kx => ?_⟩; clear Kx hKy Ky)))
    (refine opsY_callP (hC _ p k s2 u2 hI2) rfl rfl rfl (by first | rfl | (simp [Act.eval]; done) | (simp [Act.eval]; rfl) | (simp [Act.eval]; exact ⟨rfl, rfl⟩)) (fun s_ ch_ u_ hp_ => hK _ _ _ _ (by (repeat (first | refine thenY_p ?_ | refine blockY_p ?_)); exact ⟨rfl, hp_⟩)) ?_)
    rintro s3 v u3 (⟨rfl, hR⟩ | ⟨rfl, hI3, hμ⟩)
    · clear hinn
      walk_nrm
      repeat (first | (first | refine codeY_seq ?_ | refine codeY_block ?_ | refine codeY_ret ?_ | refine codeY_skip ?_ | refine codeY_exit ?_ | refine codeY_label ?_ | refine thenY_n ?_ | refine thenY_e ?_ | refine thenY_r ?_ | refine blockY_n ?_ | refine blockY_e ?_ | refine blockY_r ?_ | refine blockY_o rfl ?_ | refine codeY_condT rfl ?_ | refine codeY_condF rfl ?_) | (refine codeY_region_k (fun K hK => ?_); simp only [List.size_toArray, List.length_cons, List.length_nil, Nat.reduceAdd, Nat.zero_add, List.range, List.range.loop]) | (refine opsY_nil ?_; refine hK _ _ _ _ ?_; clear hK K) | (first | (first | (refine opsY_move rfl rfl ?_; walk_nrm) | (refine opsY_assign rfl rfl ?_; walk_nrm)) | (refine opsY_unwanted rfl rfl ?_; walk_nrm) | (refine opsY_nw rfl rfl (nw_of (by rfl)) (fun Ky hKy => ?_); go_simp; refine hKy _ _ ⟨rfl, fun Kx => ?_⟩; clear Kx hKy Ky)))
      (first | refine bodyY_ret rfl (results_1 Try.results130) ?_ | refine bodyY_ret rfl (results_0 Try.results130) ?_ | refine bodyY_ret rfl (results_2 Try.results130) ?_ | refine bodyY_ret rfl (results_3 Try.results130) ?_ | refine bodyY_end rfl (results_1 Try.results130) ?_ | refine bodyY_end rfl (results_0 Try.results130) ?_ | refine bodyY_end rfl (results_2 Try.results130) ?_ | refine bodyY_end rfl (results_3 Try.results130) ?_)
      exact hR
    · clear hinn
      walk_nrm
      repeat (first | (first | refine codeY_seq ?_ | refine codeY_block ?_ | refine codeY_ret ?_ | refine codeY_skip ?_ | refine codeY_exit ?_ | refine codeY_label ?_ | refine thenY_n ?_ | refine thenY_e ?_ | refine thenY_r ?_ | refine blockY_n ?_ | refine blockY_e ?_ | refine blockY_r ?_ | refine blockY_o rfl ?_ | refine codeY_condT rfl ?_ | refine codeY_condF rfl ?_) | (refine codeY_region_k (fun K hK => ?_); simp only [List.size_toArray, List.length_cons, List.length_nil, Nat.reduceAdd, Nat.zero_add, List.range, List.range.loop]) | (refine opsY_nil ?_; refine hK _ _ _ _ ?_; clear hK K) | (first | (first | (refine opsY_move rfl rfl ?_; walk_nrm) | (refine opsY_assign rfl rfl ?_; walk_nrm)) | (refine opsY_unwanted rfl rfl ?_; walk_nrm) | (refine opsY_nw rfl rfl (nw_of (by rfl)) (fun Ky hKy => ?_); go_simp; refine hKy _ _ ⟨rfl, fun Kx => ?_⟩; clear Kx hKy Ky)))
      exact ⟨⟨hI3, junk_intro _ rfl⟩, hμ⟩
  · have hneg : ¬ x - p < 0 := by omega
    have hzero : (x - p == 0) = false := by simp; omega
    repeat (first | (first | refine codeY_seq ?_ | refine codeY_block ?_ | refine codeY_ret ?_ | refine codeY_skip ?_ | refine codeY_exit ?_ | refine codeY_label ?_ | refine thenY_n ?_ | refine thenY_e ?_ | refine thenY_r ?_ | refine blockY_n ?_ | refine blockY_e ?_ | refine blockY_r ?_ | refine blockY_o rfl ?_ | refine codeY_condT rfl ?_ | refine codeY_condF rfl ?_) | (refine codeY_region_k (fun K hK => ?_); simp only [List.size_toArray, List.length_cons, List.length_nil, Nat.reduceAdd, Nat.zero_add, List.range, List.range.loop]) | (refine opsY_nil ?_; refine hK _ _ _ _ ?_; clear hK K) | (first | (first | (refine opsY_move rfl rfl ?_; walk_nrm) | (refine opsY_assign rfl rfl ?_; walk_nrm)) | (refine opsY_unwanted rfl rfl ?_; walk_nrm) | (refine opsY_nw rfl rfl (nw_of (by rfl)) (fun Ky hKy => ?_); go_simp; refine hKy _ _ ⟨rfl, fun Kx => ?_⟩; clear Kx hKy Ky)))
    exact ⟨⟨(hgt h).1, junk_intro _ rfl⟩, (hgt h).2⟩
end Go.Proofs.Ythnfheohfnhcpaa.Y
