/- The clock: a Stop that misses, of whatever number. -/
import Derived.Test.YthnfheohfnhcpaaChg
import Derived.Test.YthnfheohfnhcpaaClo
import Derived.Test.YthnfheohfnhcpaaDrw
import Derived.Test.YthnfheohfnhcpaaDrw
import Derived.Test.YthnfheohfnhcpaaProg
import Derived.WalkKit
set_option linter.unusedSimpArgs false
set_option linter.unusedVariables false
set_option maxRecDepth 20000
set_option maxHeartbeats 4000000
namespace Go.Proofs.Ythnfheohfnhcpaa.Y
open Go Go.Conc Go.Proofs
variable {S : Type} {E : Eng Try.prog S}





theorem stop_no {σ : S} {w : World} {n : Nat} {r : Int} {b : Nat} {now busy : Int} {st due : Nat → Int} {fs : Nat → Value} (hL : Lone E σ) (hC : Clk w b now busy st due fs) (hn : n < 16) (hr0 : 0 ≤ r) (hr2 : r.tmod 4 = 2) (he : ¬ st n = r) :
    CallR E 27 #[.pointer (some ⟨b + 2, 0, none⟩), .pointer none, .agg #[.int .i64 n, .int .i64 r]] σ w (fun σ' v w' => σ' = σ ∧ v = .bool false ∧ Clk w' b now busy st due fs ∧ Chg (InClk b) w w') := by
  have hs := hL.no
  obtain ⟨e0, e1, ez⟩ := two_alloc w (.int .i64 n) (.int .i64 r) 32
  have hc : Chg (InClk b) w (w.alloc (.cells #[.int .i64 n, .int .i64 r] 32 (0, 0))) := (Chg.refl _ w).alloc _
  have hC1 : Clk (w.alloc (.cells #[.int .i64 n, .int .i64 r] 32 (0, 0))) b now busy st due fs := hC.kept (T := fun _ => False) ((Chg.refl _ w).alloc _) (fun _ _ x => x)
  have hlt35 := (hC.due 15 (by omega)).lt
  have h' := hC1.cnow
  have h1 : ¬ (n : Int) < 0 := by omega
  have h2 : ¬ (n : Int) ≥ 16 := by omega
  have h2' : (n : Int) < 16 := by omega
  have h1' : (0 : Int) ≤ n := by omega
  have h3 : ¬ r < 0 := by omega
  have h4 : (r.tmod 4 != 2) = false := by simpa using hr2
  obtain ⟨r1, hw1⟩ : ∃ r1, IntKind.i64.wrap (r + 4) = r1 := ⟨_, rfl⟩
  obtain ⟨r2, hw2⟩ : ∃ r2, IntKind.i64.wrap (r1 - 2) = r2 := ⟨_, rfl⟩
  have hst := hC1.cst n hn
  have hld := hC1.st n hn
  refine callR_of Try.func27 (by kernel_rfl) rfl ?_; simp only [Try.ntmps27, List.size_toArray, List.length_cons, List.length_nil, Nat.reduceAdd, Nat.reduceSub, Array.replicate_succ, Array.replicate_zero, List.push_toArray, List.append_toArray, List.nil_append, List.cons_append]
  repeat (first | (first | refine codeY_seq ?_ | refine codeY_block ?_ | refine codeY_ret ?_ | refine codeY_skip ?_ | refine codeY_exit ?_ | refine codeY_label ?_ | refine thenY_n ?_ | refine thenY_e ?_ | refine thenY_r ?_ | refine blockY_n ?_ | refine blockY_e ?_ | refine blockY_r ?_ | refine blockY_o rfl ?_ | refine codeY_condT rfl ?_ | refine codeY_condF rfl ?_) | (refine codeY_region_k (fun K hK => ?_); simp only [List.size_toArray, List.length_cons, List.length_nil, Nat.reduceAdd, Nat.zero_add, List.range, List.range.loop]) | (refine opsY_nil ?_; refine hK _ _ _ _ ?_; clear hK K) | (first | (first | (refine opsY_move rfl rfl ?_; walk_nrm) | (refine opsY_assign rfl rfl ?_; walk_nrm)) | (refine opsY_unwanted rfl rfl ?_; walk_nrm) | (refine opsY_nw rfl rfl (nw_of (by rfl)) (fun Ky hKy => ?_); go_simp; refine hKy _ _ ⟨rfl, fun Kx => ?_⟩; clear Kx hKy Ky)))
  (refine opsY_callTo (cmade_yes h') rfl rfl rfl (by first | rfl | (simp [Act.eval]; done) | (simp [Act.eval]; rfl) | (simp [Act.eval]; exact ⟨rfl, rfl⟩)) ?_; walk_nrm)
  repeat (first | (first | refine codeY_seq ?_ | refine codeY_block ?_ | refine codeY_ret ?_ | refine codeY_skip ?_ | refine codeY_exit ?_ | refine codeY_label ?_ | refine thenY_n ?_ | refine thenY_e ?_ | refine thenY_r ?_ | refine blockY_n ?_ | refine blockY_e ?_ | refine blockY_r ?_ | refine blockY_o rfl ?_ | refine codeY_condT rfl ?_ | refine codeY_condF rfl ?_) | (refine codeY_region_k (fun K hK => ?_); simp only [List.size_toArray, List.length_cons, List.length_nil, Nat.reduceAdd, Nat.zero_add, List.range, List.range.loop]) | (refine opsY_nil ?_; refine hK _ _ _ _ ?_; clear hK K) | (first | (first | (refine opsY_move rfl rfl ?_; walk_nrm) | (refine opsY_assign rfl rfl ?_; walk_nrm)) | (refine opsY_unwanted rfl rfl ?_; walk_nrm) | (refine opsY_nw rfl rfl (nw_of (by rfl)) (fun Ky hKy => ?_); go_simp; refine hKy _ _ ⟨rfl, fun Kx => ?_⟩; clear Kx hKy Ky)))
  revert e0 e1 ez hc hC1 hst hld
  generalize w.alloc (.cells #[.int .i64 n, .int .i64 r] 32) = w1
  intro e0 e1 ez hc hC1 hst hld
  have hCw : (fun u : World => u.cell? ⟨w.heap.size, 0, none⟩ = some (.int .i64 n) ∧ u.cell? ⟨w.heap.size, 1, none⟩ = some (.int .i64 r) ∧ u.cell? ⟨b + 2, 2 + n * 3, none⟩ = some (.pointer (some ⟨b + 3 + 2 * n, 0, none⟩))) w1 := ⟨e0, e1, hst⟩
  (refine codeY_drawn_k (fun u : World => u.cell? ⟨w.heap.size, 0, none⟩ = some (.int .i64 n) ∧ u.cell? ⟨w.heap.size, 1, none⟩ = some (.int .i64 r) ∧ u.cell? ⟨b + 2, 2 + n * 3, none⟩ = some (.pointer (some ⟨b + 3 + 2 * n, 0, none⟩))) (by kernel_rfl) (fun K hK => ?_); simp only [List.size_toArray, List.length_cons, List.length_nil, Nat.reduceAdd, Nat.zero_add, Array.replicate_succ, Array.replicate_zero, List.push_toArray, List.nil_append, List.cons_append])
  (refine anyY_take (i := 0) rfl (by kernel_rfl) (by kernel_rfl) (by kernel_rfl) (.inl ⟨rfl, trivial, fun Cw hCw => rfl⟩) hCw ?_; walk_nrm; try (simp only [List.setIfInBounds_toArray, List.set_cons_zero, List.set_cons_succ]))
  (refine anyY_take (i := 1) rfl (by kernel_rfl) (by kernel_rfl) (by kernel_rfl) (.inl ⟨rfl, by exact nw_of (by rfl), fun Cw hCw => by go_simp; try rfl⟩) hCw ?_; walk_nrm; try (simp only [List.setIfInBounds_toArray, List.set_cons_zero, List.set_cons_succ]))
  (refine anyY_take (i := 2) rfl (by kernel_rfl) (by kernel_rfl) (by kernel_rfl) (.inl ⟨rfl, by exact nw_of (by rfl), fun Cw hCw => by go_simp; try rfl⟩) hCw ?_; walk_nrm; try (simp only [List.setIfInBounds_toArray, List.set_cons_zero, List.set_cons_succ]))
  (refine anyY_take (i := 3) rfl (by kernel_rfl) (by kernel_rfl) (by kernel_rfl) (.inl ⟨rfl, by exact nw_of (by rfl), fun Cw hCw => by go_simp; try rfl⟩) hCw ?_; walk_nrm; try (simp only [List.setIfInBounds_toArray, List.set_cons_zero, List.set_cons_succ]))
  (refine anyY_take (i := 4) rfl (by kernel_rfl) (by kernel_rfl) (by kernel_rfl) (.inl ⟨rfl, by exact nw_of (by rfl), fun Cw hCw => by go_simp; try rfl⟩) hCw ?_; walk_nrm; try (simp only [List.setIfInBounds_toArray, List.set_cons_zero, List.set_cons_succ]))
  (refine anyY_take (i := 5) rfl (by kernel_rfl) (by kernel_rfl) (by kernel_rfl) (.inl ⟨rfl, by exact nw_of (by rfl), fun Cw hCw => by go_simp; try rfl⟩) hCw ?_; walk_nrm; try (simp only [List.setIfInBounds_toArray, List.set_cons_zero, List.set_cons_succ]))
  (refine anyY_take (i := 6) rfl (by kernel_rfl) (by kernel_rfl) (by kernel_rfl) (.inl ⟨rfl, by exact nw_of (by rfl), fun Cw hCw => by go_simp; try rfl⟩) hCw ?_; walk_nrm; try (simp only [List.setIfInBounds_toArray, List.set_cons_zero, List.set_cons_succ]))
  (refine anyY_take (i := 7) rfl (by kernel_rfl) (by kernel_rfl) (by kernel_rfl) (.inl ⟨rfl, by exact nw_of (by rfl), fun Cw hCw => by go_simp; try rfl⟩) hCw ?_; walk_nrm; try (simp only [List.setIfInBounds_toArray, List.set_cons_zero, List.set_cons_succ]))
  (refine anyY_take (i := 8) rfl (by kernel_rfl) (by kernel_rfl) (by kernel_rfl) (.inl ⟨rfl, trivial, fun Cw hCw => rfl⟩) hCw ?_; walk_nrm; try (simp only [List.setIfInBounds_toArray, List.set_cons_zero, List.set_cons_succ]))
  (refine anyY_take (i := 9) rfl (by kernel_rfl) (by kernel_rfl) (by kernel_rfl) (.inl ⟨rfl, by exact nw_of (by rfl), fun Cw hCw => by go_simp; try rfl⟩) hCw ?_; walk_nrm; try (simp only [List.setIfInBounds_toArray, List.set_cons_zero, List.set_cons_succ]))
  (refine anyY_take (i := 10) rfl (by kernel_rfl) (by kernel_rfl) (by kernel_rfl) (.inl ⟨rfl, by exact nw_of (by rfl), fun Cw hCw => by go_simp; try rfl⟩) hCw ?_; walk_nrm; try (simp only [List.setIfInBounds_toArray, List.set_cons_zero, List.set_cons_succ]))
  (refine anyY_take (i := 11) rfl (by kernel_rfl) (by kernel_rfl) (by kernel_rfl) (.inl ⟨rfl, by exact nw_of (by rfl), fun Cw hCw => by go_simp; try rfl⟩) hCw ?_; walk_nrm; try (simp only [List.setIfInBounds_toArray, List.set_cons_zero, List.set_cons_succ]))
  (refine anyY_take (i := 12) rfl (by kernel_rfl) (by kernel_rfl) (by kernel_rfl) (.inl ⟨rfl, by exact nw_of (by rfl), fun Cw hCw => by go_simp; try rfl⟩) hCw ?_; walk_nrm; try (simp only [List.setIfInBounds_toArray, List.set_cons_zero, List.set_cons_succ]))
  (refine anyY_take (i := 13) rfl (by kernel_rfl) (by kernel_rfl) (by kernel_rfl) (.inl ⟨rfl, by exact nw_of (by rfl), fun Cw hCw => by go_simp; try rfl⟩) hCw ?_; walk_nrm; try (simp only [List.setIfInBounds_toArray, List.set_cons_zero, List.set_cons_succ]))
  (refine anyY_take (i := 14) rfl (by kernel_rfl) (by kernel_rfl) (by kernel_rfl) (.inl ⟨rfl, by exact nw_of (by rfl), fun Cw hCw => by go_simp; try rfl⟩) hCw ?_; walk_nrm; try (simp only [List.setIfInBounds_toArray, List.set_cons_zero, List.set_cons_succ]))
  (refine anyY_one (i := 15) (by kernel_rfl) ?_)
  (refine opY_callTo (casmiss_nil (u := r2) hld he) rfl rfl rfl (by first | rfl | (simp [Act.eval]; done) | (simp [Act.eval]; rfl) | (simp [Act.eval]; exact ⟨rfl, rfl⟩)) ?_; walk_nrm; try (simp only [List.setIfInBounds_toArray, List.set_cons_zero, List.set_cons_succ]))
  refine ⟨hCw, ?_⟩
  (refine anyY_take (i := 16) rfl (by kernel_rfl) (by kernel_rfl) (by kernel_rfl) (.inl ⟨rfl, trivial, fun Cw hCw => rfl⟩) hCw ?_; walk_nrm; try (simp only [List.setIfInBounds_toArray, List.set_cons_zero, List.set_cons_succ]))
  refine anyY_done (by kernel_rfl) (hK _ _ _ _ ?_) _
  clear hK K
  repeat (first | (first | refine codeY_seq ?_ | refine codeY_block ?_ | refine codeY_ret ?_ | refine codeY_skip ?_ | refine codeY_exit ?_ | refine codeY_label ?_ | refine thenY_n ?_ | refine thenY_e ?_ | refine thenY_r ?_ | refine blockY_n ?_ | refine blockY_e ?_ | refine blockY_r ?_ | refine blockY_o rfl ?_ | refine codeY_condT rfl ?_ | refine codeY_condF rfl ?_) | (refine codeY_region_k (fun K hK => ?_); simp only [List.size_toArray, List.length_cons, List.length_nil, Nat.reduceAdd, Nat.zero_add, List.range, List.range.loop]) | (refine opsY_nil ?_; refine hK _ _ _ _ ?_; clear hK K) | (first | (first | (refine opsY_move rfl rfl ?_; walk_nrm) | (refine opsY_assign rfl rfl ?_; walk_nrm)) | (refine opsY_unwanted rfl rfl ?_; walk_nrm) | (refine opsY_nw rfl rfl (nw_of (by rfl)) (fun Ky hKy => ?_); go_simp; refine hKy _ _ ⟨rfl, fun Kx => ?_⟩; clear Kx hKy Ky)))
  (first | refine bodyY_ret rfl (results_1 Try.results27) ?_ | refine bodyY_ret rfl (results_0 Try.results27) ?_ | refine bodyY_ret rfl (results_2 Try.results27) ?_ | refine bodyY_ret rfl (results_3 Try.results27) ?_ | refine bodyY_end rfl (results_1 Try.results27) ?_ | refine bodyY_end rfl (results_0 Try.results27) ?_ | refine bodyY_end rfl (results_2 Try.results27) ?_ | refine bodyY_end rfl (results_3 Try.results27) ?_)
  exact ⟨rfl, rfl, hC1, hc⟩
end Go.Proofs.Ythnfheohfnhcpaa.Y
