/- The levels that age: their making. -/
import Derived.Test.YthnfheohfnhcpaaPrl
set_option linter.unusedSimpArgs false
set_option linter.unusedVariables false
set_option maxRecDepth 20000
set_option maxHeartbeats 4000000
namespace Go.Proofs.Ythnfheohfnhcpaa.Y
open Go Go.Conc Go.Proofs
variable {S : Type} {E : Eng Try.prog S}

theorem prnew_bad {σ : S} {w : World} {l r : Int} (h : l < 1 ∨ 8 < l ∨ r < 2 ∨ 4096 < r ∨ (1 ≤ l ∧ l ≤ 8 ∧ 2 ≤ r ∧ r ≤ 4096 ∧ Go.bits .and .i64 r (r - 1) ≠ 0)) : CallTo E 35 #[.int .i64 l, .int .i64 r] σ w σ (.tuple #[.pointer none, .int .i64 1]) w := by
  by_cases h1 : l < 1
  · refine callTo_of Try.func35 (by kernel_rfl) rfl ?_; simp only [Try.ntmps35, List.size_toArray, List.length_cons, List.length_nil, Nat.reduceAdd, Nat.reduceSub, Array.replicate_succ, Array.replicate_zero, List.push_toArray, List.append_toArray, List.nil_append, List.cons_append]
    repeat (first | (first | refine codeY_seq ?_ | refine codeY_block ?_ | refine codeY_ret ?_ | refine codeY_skip ?_ | refine codeY_exit ?_ | refine codeY_label ?_ | refine thenY_n ?_ | refine thenY_e ?_ | refine thenY_r ?_ | refine blockY_n ?_ | refine blockY_e ?_ | refine blockY_r ?_ | refine blockY_o rfl ?_ | refine codeY_condT rfl ?_ | refine codeY_condF rfl ?_) | (refine codeY_region_k (fun K hK => ?_); simp only [List.size_toArray, List.length_cons, List.length_nil, Nat.reduceAdd, Nat.zero_add, List.range, List.range.loop]) | (refine opsY_nil ?_; refine hK _ _ _ _ ?_; clear hK K) | (first | (first | (refine opsY_move rfl rfl ?_; walk_nrm) | (refine opsY_assign rfl rfl ?_; walk_nrm)) | (refine opsY_unwanted rfl rfl ?_; walk_nrm) | (refine opsY_nw rfl rfl (nw_of (by rfl)) (fun Ky hKy => ?_); go_simp; refine hKy _ _ ⟨rfl, fun Kx => ?_⟩; clear Kx hKy Ky)))
    ((first | refine bodyY_ret rfl (results_1 Try.results35) ?_ | refine bodyY_ret rfl (results_0 Try.results35) ?_ | refine bodyY_ret rfl (results_2 Try.results35) ?_ | refine bodyY_ret rfl (results_3 Try.results35) ?_ | refine bodyY_end rfl (results_1 Try.results35) ?_ | refine bodyY_end rfl (results_0 Try.results35) ?_ | refine bodyY_end rfl (results_2 Try.results35) ?_ | refine bodyY_end rfl (results_3 Try.results35) ?_); exact ⟨rfl, rfl, rfl⟩)
  · by_cases h2 : l > 8
    · refine callTo_of Try.func35 (by kernel_rfl) rfl ?_; simp only [Try.ntmps35, List.size_toArray, List.length_cons, List.length_nil, Nat.reduceAdd, Nat.reduceSub, Array.replicate_succ, Array.replicate_zero, List.push_toArray, List.append_toArray, List.nil_append, List.cons_append]
      repeat (first | (first | refine codeY_seq ?_ | refine codeY_block ?_ | refine codeY_ret ?_ | refine codeY_skip ?_ | refine codeY_exit ?_ | refine codeY_label ?_ | refine thenY_n ?_ | refine thenY_e ?_ | refine thenY_r ?_ | refine blockY_n ?_ | refine blockY_e ?_ | refine blockY_r ?_ | refine blockY_o rfl ?_ | refine codeY_condT rfl ?_ | refine codeY_condF rfl ?_) | (refine codeY_region_k (fun K hK => ?_); simp only [List.size_toArray, List.length_cons, List.length_nil, Nat.reduceAdd, Nat.zero_add, List.range, List.range.loop]) | (refine opsY_nil ?_; refine hK _ _ _ _ ?_; clear hK K) | (first | (first | (refine opsY_move rfl rfl ?_; walk_nrm) | (refine opsY_assign rfl rfl ?_; walk_nrm)) | (refine opsY_unwanted rfl rfl ?_; walk_nrm) | (refine opsY_nw rfl rfl (nw_of (by rfl)) (fun Ky hKy => ?_); go_simp; refine hKy _ _ ⟨rfl, fun Kx => ?_⟩; clear Kx hKy Ky)))
      ((first | refine bodyY_ret rfl (results_1 Try.results35) ?_ | refine bodyY_ret rfl (results_0 Try.results35) ?_ | refine bodyY_ret rfl (results_2 Try.results35) ?_ | refine bodyY_ret rfl (results_3 Try.results35) ?_ | refine bodyY_end rfl (results_1 Try.results35) ?_ | refine bodyY_end rfl (results_0 Try.results35) ?_ | refine bodyY_end rfl (results_2 Try.results35) ?_ | refine bodyY_end rfl (results_3 Try.results35) ?_); exact ⟨rfl, rfl, rfl⟩)
    · by_cases h3 : r < 2
      · refine callTo_of Try.func35 (by kernel_rfl) rfl ?_; simp only [Try.ntmps35, List.size_toArray, List.length_cons, List.length_nil, Nat.reduceAdd, Nat.reduceSub, Array.replicate_succ, Array.replicate_zero, List.push_toArray, List.append_toArray, List.nil_append, List.cons_append]
        repeat (first | (first | refine codeY_seq ?_ | refine codeY_block ?_ | refine codeY_ret ?_ | refine codeY_skip ?_ | refine codeY_exit ?_ | refine codeY_label ?_ | refine thenY_n ?_ | refine thenY_e ?_ | refine thenY_r ?_ | refine blockY_n ?_ | refine blockY_e ?_ | refine blockY_r ?_ | refine blockY_o rfl ?_ | refine codeY_condT rfl ?_ | refine codeY_condF rfl ?_) | (refine codeY_region_k (fun K hK => ?_); simp only [List.size_toArray, List.length_cons, List.length_nil, Nat.reduceAdd, Nat.zero_add, List.range, List.range.loop]) | (refine opsY_nil ?_; refine hK _ _ _ _ ?_; clear hK K) | (first | (first | (refine opsY_move rfl rfl ?_; walk_nrm) | (refine opsY_assign rfl rfl ?_; walk_nrm)) | (refine opsY_unwanted rfl rfl ?_; walk_nrm) | (refine opsY_nw rfl rfl (nw_of (by rfl)) (fun Ky hKy => ?_); go_simp; refine hKy _ _ ⟨rfl, fun Kx => ?_⟩; clear Kx hKy Ky)))
        ((first | refine bodyY_ret rfl (results_1 Try.results35) ?_ | refine bodyY_ret rfl (results_0 Try.results35) ?_ | refine bodyY_ret rfl (results_2 Try.results35) ?_ | refine bodyY_ret rfl (results_3 Try.results35) ?_ | refine bodyY_end rfl (results_1 Try.results35) ?_ | refine bodyY_end rfl (results_0 Try.results35) ?_ | refine bodyY_end rfl (results_2 Try.results35) ?_ | refine bodyY_end rfl (results_3 Try.results35) ?_); exact ⟨rfl, rfl, rfl⟩)
      · by_cases h4 : r > 4096
        · refine callTo_of Try.func35 (by kernel_rfl) rfl ?_; simp only [Try.ntmps35, List.size_toArray, List.length_cons, List.length_nil, Nat.reduceAdd, Nat.reduceSub, Array.replicate_succ, Array.replicate_zero, List.push_toArray, List.append_toArray, List.nil_append, List.cons_append]
          repeat (first | (first | refine codeY_seq ?_ | refine codeY_block ?_ | refine codeY_ret ?_ | refine codeY_skip ?_ | refine codeY_exit ?_ | refine codeY_label ?_ | refine thenY_n ?_ | refine thenY_e ?_ | refine thenY_r ?_ | refine blockY_n ?_ | refine blockY_e ?_ | refine blockY_r ?_ | refine blockY_o rfl ?_ | refine codeY_condT rfl ?_ | refine codeY_condF rfl ?_) | (refine codeY_region_k (fun K hK => ?_); simp only [List.size_toArray, List.length_cons, List.length_nil, Nat.reduceAdd, Nat.zero_add, List.range, List.range.loop]) | (refine opsY_nil ?_; refine hK _ _ _ _ ?_; clear hK K) | (first | (first | (refine opsY_move rfl rfl ?_; walk_nrm) | (refine opsY_assign rfl rfl ?_; walk_nrm)) | (refine opsY_unwanted rfl rfl ?_; walk_nrm) | (refine opsY_nw rfl rfl (nw_of (by rfl)) (fun Ky hKy => ?_); go_simp; refine hKy _ _ ⟨rfl, fun Kx => ?_⟩; clear Kx hKy Ky)))
          ((first | refine bodyY_ret rfl (results_1 Try.results35) ?_ | refine bodyY_ret rfl (results_0 Try.results35) ?_ | refine bodyY_ret rfl (results_2 Try.results35) ?_ | refine bodyY_ret rfl (results_3 Try.results35) ?_ | refine bodyY_end rfl (results_1 Try.results35) ?_ | refine bodyY_end rfl (results_0 Try.results35) ?_ | refine bodyY_end rfl (results_2 Try.results35) ?_ | refine bodyY_end rfl (results_3 Try.results35) ?_); exact ⟨rfl, rfl, rfl⟩)
        · have hw := wrap64 (x := r - 1) (by omega) (by omega)
          have hb : (Go.bits .and .i64 r (r - 1) != 0) = true := by
            have : Go.bits .and .i64 r (r - 1) ≠ 0 := by
              rcases h with h | h | h | h | h
              · omega
              · omega
              · omega
              · omega
              · exact h.2.2.2.2
            simpa using this
          refine callTo_of Try.func35 (by kernel_rfl) rfl ?_; simp only [Try.ntmps35, List.size_toArray, List.length_cons, List.length_nil, Nat.reduceAdd, Nat.reduceSub, Array.replicate_succ, Array.replicate_zero, List.push_toArray, List.append_toArray, List.nil_append, List.cons_append]
          repeat (first | (first | refine codeY_seq ?_ | refine codeY_block ?_ | refine codeY_ret ?_ | refine codeY_skip ?_ | refine codeY_exit ?_ | refine codeY_label ?_ | refine thenY_n ?_ | refine thenY_e ?_ | refine thenY_r ?_ | refine blockY_n ?_ | refine blockY_e ?_ | refine blockY_r ?_ | refine blockY_o rfl ?_ | refine codeY_condT rfl ?_ | refine codeY_condF rfl ?_) | (refine codeY_region_k (fun K hK => ?_); simp only [List.size_toArray, List.length_cons, List.length_nil, Nat.reduceAdd, Nat.zero_add, List.range, List.range.loop]) | (refine opsY_nil ?_; refine hK _ _ _ _ ?_; clear hK K) | (first | (first | (refine opsY_move rfl rfl ?_; walk_nrm) | (refine opsY_assign rfl rfl ?_; walk_nrm)) | (refine opsY_unwanted rfl rfl ?_; walk_nrm) | (refine opsY_nw rfl rfl (nw_of (by rfl)) (fun Ky hKy => ?_); go_simp; refine hKy _ _ ⟨rfl, fun Kx => ?_⟩; clear Kx hKy Ky)))
          ((first | refine bodyY_ret rfl (results_1 Try.results35) ?_ | refine bodyY_ret rfl (results_0 Try.results35) ?_ | refine bodyY_ret rfl (results_2 Try.results35) ?_ | refine bodyY_ret rfl (results_3 Try.results35) ?_ | refine bodyY_end rfl (results_1 Try.results35) ?_ | refine bodyY_end rfl (results_0 Try.results35) ?_ | refine bodyY_end rfl (results_2 Try.results35) ?_ | refine bodyY_end rfl (results_3 Try.results35) ?_); exact ⟨rfl, rfl, rfl⟩)
theorem prnew_good {σ : S} {w : World} {L room : Nat} (hL : Lone E σ) (h0 : 1 ≤ L) (h1 : L ≤ 8) (h2 : 2 ≤ room) (h3 : room ≤ 4096) (hb : Go.bits .and .i64 (room : Int) ((room : Int) - 1) = 0) :
    CallR E 35 #[.int .i64 L, .int .i64 room] σ w (fun s v u => s = σ ∧ Chg (fun _ => False) w u ∧ ∃ A : PA, A.L = L ∧ A.room = room ∧ v = .tuple #[.pointer (some ⟨A.p, 0, none⟩), .int .i64 0] ∧ PW u A (ival room) ∧ w.heap.size ≤ A.p ∧ ∀ k, k < A.N → w.heap.size ≤ A.cb k) := by
  have hs := hL.no
  have hw := wrap64 (x := (room : Int) - 1) (by omega) (by omega)
  have c1 : ¬ (L : Int) < 1 := by omega
  have c2 : ¬ (L : Int) > 8 := by omega
  have c3 : ¬ (room : Int) < 2 := by omega
  have c4 : ¬ (room : Int) > 4096 := by omega
  refine callR_of Try.func35 (by kernel_rfl) rfl ?_; simp only [Try.ntmps35, List.size_toArray, List.length_cons, List.length_nil, Nat.reduceAdd, Nat.reduceSub, Array.replicate_succ, Array.replicate_zero, List.push_toArray, List.append_toArray, List.nil_append, List.cons_append]
  repeat (first | (first | refine codeY_seq ?_ | refine codeY_block ?_ | refine codeY_ret ?_ | refine codeY_skip ?_ | refine codeY_exit ?_ | refine codeY_label ?_ | refine thenY_n ?_ | refine thenY_e ?_ | refine thenY_r ?_ | refine blockY_n ?_ | refine blockY_e ?_ | refine blockY_r ?_ | refine blockY_o rfl ?_ | refine codeY_condT rfl ?_ | refine codeY_condF rfl ?_) | (refine codeY_region_k (fun K hK => ?_); simp only [List.size_toArray, List.length_cons, List.length_nil, Nat.reduceAdd, Nat.zero_add, List.range, List.range.loop]) | (refine opsY_nil ?_; refine hK _ _ _ _ ?_; clear hK K) | (first | (first | (refine opsY_move rfl rfl ?_; walk_nrm) | (refine opsY_assign rfl rfl ?_; walk_nrm)) | (refine opsY_unwanted rfl rfl ?_; walk_nrm) | (refine opsY_nw rfl rfl (nw_of (by rfl)) (fun Ky hKy => ?_); go_simp; refine hKy _ _ ⟨rfl, fun Kx => ?_⟩; clear Kx hKy Ky)))
  (refine opsY_callTo (new_cell 0 (hs _)) rfl rfl rfl (by first | rfl | (simp [Act.eval]; done) | (simp [Act.eval]; rfl) | (simp [Act.eval]; exact ⟨rfl, rfl⟩)) ?_; walk_nrm)
  repeat (first | (first | refine codeY_seq ?_ | refine codeY_block ?_ | refine codeY_ret ?_ | refine codeY_skip ?_ | refine codeY_exit ?_ | refine codeY_label ?_ | refine thenY_n ?_ | refine thenY_e ?_ | refine thenY_r ?_ | refine blockY_n ?_ | refine blockY_e ?_ | refine blockY_r ?_ | refine blockY_o rfl ?_ | refine codeY_condT rfl ?_ | refine codeY_condF rfl ?_) | (refine codeY_region_k (fun K hK => ?_); simp only [List.size_toArray, List.length_cons, List.length_nil, Nat.reduceAdd, Nat.zero_add, List.range, List.range.loop]) | (refine opsY_nil ?_; refine hK _ _ _ _ ?_; clear hK K) | (first | (first | (refine opsY_move rfl rfl ?_; walk_nrm) | (refine opsY_assign rfl rfl ?_; walk_nrm)) | (refine opsY_unwanted rfl rfl ?_; walk_nrm) | (refine opsY_nw rfl rfl (nw_of (by rfl)) (fun Ky hKy => ?_); go_simp; refine hKy _ _ ⟨rfl, fun Kx => ?_⟩; clear Kx hKy Ky)))
  obtain ⟨p, hp⟩ : ∃ p, p = w.heap.size + 1 := ⟨_, rfl⟩
  have hps : w.heap.size ≤ p := by omega
  have hp' : p = (w.alloc (cellObj 0)).heap.size := by rw [hp, World.size_alloc]
  have hN0 : Nums (w.alloc (cellObj 0)) (fun _ => w.heap.size) 1 (ival room) := ((Nums.zero w (fun _ => w.heap.size) (fun _ => 0)).push 0).congr (fun k hk => by simp only [upd1]; split <;> rfl) (fun k hk => by
    have : k = 0 := by omega
    subst this; rfl)
  have hP : Pri ((w.alloc (cellObj 0)).alloc (.cells #[.pointer (some ⟨w.heap.size, 0, none⟩), .slice none 0 0] 220)) w.heap.size (w.heap.size + 2) room 0 p (fun _ => w.heap.size) (fun _ => 0) (fun _ => .nilFunc) (.slice none 0 0) :=
    ⟨by rw [hp']; exact heap_alloc_self _ _, World.ownsRow_nil _ _ _ _, fun k hk => by omega, by have := hN0.more (.cells #[.pointer (some ⟨w.heap.size, 0, none⟩), .slice none 0 0] 220); rw [show cinR room 0 = 1 by simp [cinR]]; exact this, by omega, fun g hg => (by cases hg), fun k hk => by omega, fun k hk => by omega⟩
  have hC : Chg (fun _ => False) w ((w.alloc (cellObj 0)).alloc (.cells #[.pointer (some ⟨w.heap.size, 0, none⟩), .slice none 0 0] 220)) := ((Chg.refl _ w).alloc _).alloc _
  rw [← hp]
  clear hN0 hp hp'
  revert hP hC
  generalize ((w.alloc (cellObj 0)).alloc (.cells #[.pointer (some ⟨w.heap.size, 0, none⟩), .slice none 0 0] 220)) = w1
  intro hP hC
  refine codeY_loop (fun s a u => s = σ ∧ ∃ (i : Nat) (cb lb : Nat → Nat) (pv : Nat → Value) (lv : Value), i ≤ L ∧ Pri u w.heap.size u.heap.size room i p cb lb pv lv ∧ Chg (fun _ => False) w u ∧ (∀ k, k < cinR room i → w.heap.size ≤ cb k) ∧ ∃ jk : Nat → Value, a = (⟨#[.int .i64 L, .int .i64 room, jk 2, jk 3, .pointer none, .int .i64 0, .pointer (some ⟨p, 0, none⟩), jk 7, jk 8, jk 9, jk 10, jk 11, jk 12, jk 13, jk 14, jk 15, jk 16, jk 17, jk 18, jk 19, jk 20, jk 21, jk 22, jk 23, jk 24, jk 25, jk 26, jk 27, jk 28, jk 29, jk 30, jk 31, jk 32, .int .i64 L, .int .i64 i, jk 35, jk 36, jk 37, jk 38, jk 39, jk 40, jk 41, jk 42, jk 43, jk 44, jk 45, jk 46, jk 47, jk 48, jk 49, jk 50, jk 51, jk 52, jk 53, jk 54, jk 55, jk 56, jk 57, jk 58, jk 59, jk 60, jk 61, jk 62, jk 63, jk 64, jk 65, jk 66, jk 67, jk 68, jk 69, jk 70], []⟩ : Act)) (fun _ a _ => match a.tmps.getD 34 undef with | .int _ x => ((L : Int) - x).toNat | _ => 0) ⟨rfl, 0, _, _, _, _, by omega, hP.low, hC, fun _ _ => Nat.le_refl _, junk_intro _ rfl⟩ ?_
  clear hP hC w1
  rintro s a u ⟨rfl, i, cb, lb, pv, lv, hi, hP, hC, hlo, jk, rfl⟩
  by_cases hiL : (i : Int) < L
  · have hi0 : (0 : Int) ≤ i := by omega
    have hwi := wrap64 (x := (i : Int) + 1) (by omega) (by omega)
    repeat (first | (first | refine codeY_seq ?_ | refine codeY_block ?_ | refine codeY_ret ?_ | refine codeY_skip ?_ | refine codeY_exit ?_ | refine codeY_label ?_ | refine thenY_n ?_ | refine thenY_e ?_ | refine thenY_r ?_ | refine blockY_n ?_ | refine blockY_e ?_ | refine blockY_r ?_ | refine blockY_o rfl ?_ | refine codeY_condT rfl ?_ | refine codeY_condF rfl ?_) | (refine codeY_region_k (fun K hK => ?_); simp only [List.size_toArray, List.length_cons, List.length_nil, Nat.reduceAdd, Nat.zero_add, List.range, List.range.loop]) | (refine opsY_nil ?_; refine hK _ _ _ _ ?_; clear hK K) | (first | (first | (refine opsY_move rfl rfl ?_; walk_nrm) | (refine opsY_assign rfl rfl ?_; walk_nrm)) | (refine opsY_unwanted rfl rfl ?_; walk_nrm) | (refine opsY_nw rfl rfl (nw_of (by rfl)) (fun Ky hKy => ?_); go_simp; refine hKy _ _ ⟨rfl, fun Kx => ?_⟩; clear Kx hKy Ky)))
    (refine opsY_callTo (new_cell 0 (hs _)) rfl rfl rfl (by first | rfl | (simp [Act.eval]; done) | (simp [Act.eval]; rfl) | (simp [Act.eval]; exact ⟨rfl, rfl⟩)) ?_; walk_nrm)
    repeat (first | (first | refine codeY_seq ?_ | refine codeY_block ?_ | refine codeY_ret ?_ | refine codeY_skip ?_ | refine codeY_exit ?_ | refine codeY_label ?_ | refine thenY_n ?_ | refine thenY_e ?_ | refine thenY_r ?_ | refine blockY_n ?_ | refine blockY_e ?_ | refine blockY_r ?_ | refine blockY_o rfl ?_ | refine codeY_condT rfl ?_ | refine codeY_condF rfl ?_) | (refine codeY_region_k (fun K hK => ?_); simp only [List.size_toArray, List.length_cons, List.length_nil, Nat.reduceAdd, Nat.zero_add, List.range, List.range.loop]) | (refine opsY_nil ?_; refine hK _ _ _ _ ?_; clear hK K) | (first | (first | (refine opsY_move rfl rfl ?_; walk_nrm) | (refine opsY_assign rfl rfl ?_; walk_nrm)) | (refine opsY_unwanted rfl rfl ?_; walk_nrm) | (refine opsY_nw rfl rfl (nw_of (by rfl)) (fun Ky hKy => ?_); go_simp; refine hKy _ _ ⟨rfl, fun Kx => ?_⟩; clear Kx hKy Ky)))
    (refine opsY_callTo (new_cell 0 (hs _)) rfl rfl rfl (by first | rfl | (simp [Act.eval]; done) | (simp [Act.eval]; rfl) | (simp [Act.eval]; exact ⟨rfl, rfl⟩)) ?_; walk_nrm)
    repeat (first | (first | refine codeY_seq ?_ | refine codeY_block ?_ | refine codeY_ret ?_ | refine codeY_skip ?_ | refine codeY_exit ?_ | refine codeY_label ?_ | refine thenY_n ?_ | refine thenY_e ?_ | refine thenY_r ?_ | refine blockY_n ?_ | refine blockY_e ?_ | refine blockY_r ?_ | refine blockY_o rfl ?_ | refine codeY_condT rfl ?_ | refine codeY_condF rfl ?_) | (refine codeY_region_k (fun K hK => ?_); simp only [List.size_toArray, List.length_cons, List.length_nil, Nat.reduceAdd, Nat.zero_add, List.range, List.range.loop]) | (refine opsY_nil ?_; refine hK _ _ _ _ ?_; clear hK K) | (first | (first | (refine opsY_move rfl rfl ?_; walk_nrm) | (refine opsY_assign rfl rfl ?_; walk_nrm)) | (refine opsY_unwanted rfl rfl ?_; walk_nrm) | (refine opsY_nw rfl rfl (nw_of (by rfl)) (fun Ky hKy => ?_); go_simp; refine hKy _ _ ⟨rfl, fun Kx => ?_⟩; clear Kx hKy Ky)))
    have hu1 : u.heap.size + 1 = (u.alloc (cellObj 0)).heap.size := by rw [World.size_alloc]
    have hu2 : u.heap.size + 2 = ((u.alloc (cellObj 0)).alloc (cellObj 0)).heap.size := by rw [World.size_alloc, World.size_alloc]
    have hbu : w.heap.size ≤ u.heap.size := hC.size
    have hlt0 := hP.n.lt (k := 0) (by unfold cinR; omega)
    have hNs := ((hP.n.push 0).push 0).more (.cells #[.pointer (some ⟨u.heap.size, 0, none⟩), .pointer (some ⟨u.heap.size + 1, 0, none⟩), .slice none 0 0] 259)
    have hcu : Chg (fun b => u.heap.size ≤ b) u (((u.alloc (cellObj 0)).alloc (cellObj 0)).alloc (.cells #[.pointer (some ⟨u.heap.size, 0, none⟩), .pointer (some ⟨u.heap.size + 1, 0, none⟩), .slice none 0 0] 259)) := (((Chg.refl _ u).alloc _).alloc _).alloc _
    have hP1 := hP.kept hcu
    have hC1 := hC.trans hcu (fun b hb hx => by omega)
    have hobj := heap_alloc_self ((u.alloc (cellObj 0)).alloc (cellObj 0)) (.cells #[.pointer (some ⟨u.heap.size, 0, none⟩), .pointer (some ⟨u.heap.size + 1, 0, none⟩), .slice none 0 0] 259)
    rw [← hu2] at hobj
    rw [← hu1] at hNs
    have iv0 : ∀ x, x < 2 → ival room (cinR room i + x) = 0 := fun x hx => by
      have e : (cinR room i + x - 1) % (2 + 3 * room) = x := by
        have : cinR room i + x - 1 = x + (2 + 3 * room) * i := by unfold cinR; rw [Nat.mul_comm]; omega
        rw [this, Nat.add_mul_mod_self_left, Nat.mod_eq_of_lt (by omega)]
      unfold ival
      rw [if_neg (by unfold cinR; omega), e, if_pos hx]
    have hN2 : Nums (((u.alloc (cellObj 0)).alloc (cellObj 0)).alloc (.cells #[.pointer (some ⟨u.heap.size, 0, none⟩), .pointer (some ⟨u.heap.size + 1, 0, none⟩), .slice none 0 0] 259)) (upd1 (upd1 cb (cinR room i) u.heap.size) (cinR room i + 1) (u.heap.size + 1)) (cinR room i + 2 + 0) (ival room) :=
      hNs.congr (fun _ _ => rfl) (fun k hk => by
        by_cases e1 : k = cinR room i + 1
        · subst e1; rw [upd1_same]; exact iv0 1 (by omega)
        · rw [upd1_ne _ _ e1]
          by_cases e0 : k = cinR room i
          · subst e0; rw [upd1_same]; exact iv0 0 (by omega)
          · rw [upd1_ne _ _ e0])
    have hLv : Lev (((u.alloc (cellObj 0)).alloc (cellObj 0)).alloc (.cells #[.pointer (some ⟨u.heap.size, 0, none⟩), .pointer (some ⟨u.heap.size + 1, 0, none⟩), .slice none 0 0] 259)) u.heap.size (upd1 (upd1 cb (cinR room i) u.heap.size) (cinR room i + 1) (u.heap.size + 1)) (cinR room i) (u.heap.size + 2) (.slice none 0 0) 0 :=
      ⟨by rw [upd1_same, upd1_ne _ _ (by omega), upd1_same]; exact hobj, World.ownsRow_nil _ _ _ _⟩
    have hcb : ∀ k, k < cinR room i → upd1 (upd1 cb (cinR room i) u.heap.size) (cinR room i + 1) (u.heap.size + 1) k = cb k := fun k hk => by rw [upd1_ne _ _ (by omega), upd1_ne _ _ (by omega)]
    have hlo1 : ∀ k, k < cinR room i + 2 + 0 → w.heap.size ≤ upd1 (upd1 cb (cinR room i) u.heap.size) (cinR room i + 1) (u.heap.size + 1) k := fun k hk => by
      by_cases e1 : k = cinR room i + 1
      · subst e1; rw [upd1_same]; omega
      · rw [upd1_ne _ _ e1]
        by_cases e0 : k = cinR room i
        · subst e0; rw [upd1_same]; exact hbu
        · rw [upd1_ne _ _ e0]; exact hlo k (by omega)
    have hsl : u.heap.size + 2 < (((u.alloc (cellObj 0)).alloc (cellObj 0)).alloc (.cells #[.pointer (some ⟨u.heap.size, 0, none⟩), .pointer (some ⟨u.heap.size + 1, 0, none⟩), .slice none 0 0] 259)).heap.size := (Array.getElem?_eq_some_iff.1 hobj).1
    clear hNs hobj hlt0 hcu hP hC hu1 hu2
    revert hP1 hC1 hN2 hLv hsl
    generalize ((u.alloc (cellObj 0)).alloc (cellObj 0)).alloc (.cells #[.pointer (some ⟨u.heap.size, 0, none⟩), .pointer (some ⟨u.heap.size + 1, 0, none⟩), .slice none 0 0] 259) = u1
    generalize upd1 (upd1 cb (cinR room i) u.heap.size) (cinR room i + 1) (u.heap.size + 1) = cb1 at hcb hlo1
    intro hP1 hC1 hN2 hLv hsl
    refine codeY_loop (fun s' a v => s' = s ∧ ∃ (j : Nat) (cb' : Nat → Nat) (qv : Value), j ≤ room ∧ Pri v w.heap.size u.heap.size room i p cb lb pv lv ∧ Chg (fun _ => False) w v ∧ Nums v cb' (cinR room i + 2 + j * 3) (ival room) ∧ CbX (cinR room i) (cinR room i + 2 + j * 3) w.heap.size cb cb' ∧ Lev v u.heap.size cb' (cinR room i) (u.heap.size + 2) qv j ∧ u.heap.size ≤ v.heap.size ∧ ∃ jk : Nat → Value, a = (⟨#[.int .i64 L, .int .i64 room, jk 2, jk 3, .pointer none, .int .i64 0, .pointer (some ⟨p, 0, none⟩), .pointer (some ⟨u.heap.size + 2, 0, none⟩), jk 8, jk 9, jk 10, jk 11, jk 12, jk 13, jk 14, jk 15, jk 16, jk 17, jk 18, jk 19, jk 20, jk 21, jk 22, jk 23, jk 24, jk 25, jk 26, jk 27, jk 28, jk 29, jk 30, jk 31, jk 32, .int .i64 L, .int .i64 i, jk 35, jk 36, jk 37, jk 38, jk 39, .int .i64 room, .int .i64 j, jk 42, jk 43, jk 44, jk 45, jk 46, jk 47, jk 48, jk 49, jk 50, jk 51, jk 52, jk 53, jk 54, jk 55, jk 56, jk 57, jk 58, jk 59, jk 60, jk 61, jk 62, jk 63, jk 64, jk 65, jk 66, jk 67, jk 68, jk 69, jk 70], []⟩ : Act)) (fun _ a _ => match a.tmps.getD 41 undef with | .int _ x => ((room : Int) - x).toNat | _ => 0) ⟨rfl, 0, cb1, _, by omega, hP1, hC1, by simpa using hN2, ⟨hcb, by simpa using hlo1⟩, hLv, by omega, junk_intro _ rfl⟩ ?_
    clear hP1 hC1 hN2 hLv hsl u1 hcb hlo1 cb1 iv0
    rintro s' a v ⟨rfl, j, cb', qv, hj, hP, hC, hN, hcb, hLv, hsv, jk, rfl⟩
    have hl2 : v.cell? ⟨u.heap.size + 2, 2, none⟩ = some qv := by unfold World.cell?; simp only; rw [hLv.obj]; rfl
    have hlz : ∀ o, v.frozen? ⟨u.heap.size + 2, o, none⟩ = false := fun o => by unfold World.frozen?; simp only; rw [hLv.obj]; simp
    by_cases hjr : (j : Int) < room
    · have hj0 : (0 : Int) ≤ j := by omega
      have hwj := wrap64 (x := (j : Int) + 1) (by omega) (by omega)
      have hC0 := hl2
      repeat (first | (first | refine codeY_seq ?_ | refine codeY_block ?_ | refine codeY_ret ?_ | refine codeY_skip ?_ | refine codeY_exit ?_ | refine codeY_label ?_ | refine thenY_n ?_ | refine thenY_e ?_ | refine thenY_r ?_ | refine blockY_n ?_ | refine blockY_e ?_ | refine blockY_r ?_ | refine blockY_o rfl ?_ | refine codeY_condT rfl ?_ | refine codeY_condF rfl ?_) | (refine codeY_region_k (fun K hK => ?_); simp only [List.size_toArray, List.length_cons, List.length_nil, Nat.reduceAdd, Nat.zero_add, List.range, List.range.loop]) | (refine opsY_nil ?_; refine hK _ _ _ _ ?_; clear hK K) | (first | (first | (refine opsY_move rfl rfl ?_; walk_nrm) | (refine opsY_assign rfl rfl ?_; walk_nrm)) | (refine opsY_unwanted rfl rfl ?_; walk_nrm) | (refine opsY_nw rfl rfl (nw_of (by rfl)) (fun Ky hKy => ?_); go_simp; refine hKy _ _ ⟨rfl, fun Kx => ?_⟩; clear Kx hKy Ky)))
      (refine codeY_drawn_k (fun x : World => x.cell? ⟨u.heap.size + 2, 2, none⟩ = some qv) (by kernel_rfl) (fun K hK => ?_); simp only [List.size_toArray, List.length_cons, List.length_nil, Nat.reduceAdd, Nat.zero_add, Array.replicate_succ, Array.replicate_zero, List.push_toArray, List.nil_append, List.cons_append])
      (first | (refine anyY_take (i := 0) rfl (by kernel_rfl) (by kernel_rfl) (by decide +kernel) (by kernel_rfl) (.inl ⟨rfl, trivial, fun Cw hCw => rfl⟩) hC0 ?_; walk_nrm; try (simp only [List.setIfInBounds_toArray, List.set_cons_zero, List.set_cons_succ])) | (refine anyY_one (i := 0) (by kernel_rfl) ?_; (first | refine opY_nw rfl rfl (show Nw _ from trivial) (fun Ky hKy => ?_) | refine opY_nw rfl rfl (nw_of (by rfl)) (fun Ky hKy => ?_)); go_simp; refine hKy _ _ ⟨rfl, ?_⟩; clear hKy Ky; refine ⟨.inr hC0, ?_⟩; walk_nrm; try (simp only [List.setIfInBounds_toArray, List.set_cons_zero, List.set_cons_succ])))
      (first | (refine anyY_take (i := 1) rfl (by kernel_rfl) (by kernel_rfl) (by decide +kernel) (by kernel_rfl) (.inl ⟨rfl, trivial, fun Cw hCw => rfl⟩) hC0 ?_; walk_nrm; try (simp only [List.setIfInBounds_toArray, List.set_cons_zero, List.set_cons_succ])) | (refine anyY_one (i := 1) (by kernel_rfl) ?_; (first | refine opY_nw rfl rfl (show Nw _ from trivial) (fun Ky hKy => ?_) | refine opY_nw rfl rfl (nw_of (by rfl)) (fun Ky hKy => ?_)); go_simp; refine hKy _ _ ⟨rfl, ?_⟩; clear hKy Ky; refine ⟨.inr hC0, ?_⟩; walk_nrm; try (simp only [List.setIfInBounds_toArray, List.set_cons_zero, List.set_cons_succ])))
      (first | (refine anyY_take (i := 2) rfl (by kernel_rfl) (by kernel_rfl) (by decide +kernel) (by kernel_rfl) (.inl ⟨rfl, by exact nw_of (by rfl), fun Cw hCw => by go_simp; try rfl⟩) hC0 ?_; walk_nrm; try (simp only [List.setIfInBounds_toArray, List.set_cons_zero, List.set_cons_succ])) | (refine anyY_one (i := 2) (by kernel_rfl) ?_; (first | refine opY_nw rfl rfl (show Nw _ from trivial) (fun Ky hKy => ?_) | refine opY_nw rfl rfl (nw_of (by rfl)) (fun Ky hKy => ?_)); go_simp; refine hKy _ _ ⟨rfl, ?_⟩; clear hKy Ky; refine ⟨.inr hC0, ?_⟩; walk_nrm; try (simp only [List.setIfInBounds_toArray, List.set_cons_zero, List.set_cons_succ])))
      (first | (refine anyY_take (i := 3) rfl (by kernel_rfl) (by kernel_rfl) (by decide +kernel) (by kernel_rfl) (.inl ⟨rfl, by exact nw_of (by rfl), fun Cw hCw => by go_simp; try rfl⟩) hC0 ?_; walk_nrm; try (simp only [List.setIfInBounds_toArray, List.set_cons_zero, List.set_cons_succ])) | (refine anyY_one (i := 3) (by kernel_rfl) ?_; (first | refine opY_nw rfl rfl (show Nw _ from trivial) (fun Ky hKy => ?_) | refine opY_nw rfl rfl (nw_of (by rfl)) (fun Ky hKy => ?_)); go_simp; refine hKy _ _ ⟨rfl, ?_⟩; clear hKy Ky; refine ⟨.inr hC0, ?_⟩; walk_nrm; try (simp only [List.setIfInBounds_toArray, List.set_cons_zero, List.set_cons_succ])))
      (first | (refine anyY_take (i := 4) rfl (by kernel_rfl) (by kernel_rfl) (by decide +kernel) (by kernel_rfl) (.inl ⟨rfl, by exact nw_of (by rfl), fun Cw hCw => by go_simp; try rfl⟩) hC0 ?_; walk_nrm; try (simp only [List.setIfInBounds_toArray, List.set_cons_zero, List.set_cons_succ])) | (refine anyY_one (i := 4) (by kernel_rfl) ?_; (first | refine opY_nw rfl rfl (show Nw _ from trivial) (fun Ky hKy => ?_) | refine opY_nw rfl rfl (nw_of (by rfl)) (fun Ky hKy => ?_)); go_simp; refine hKy _ _ ⟨rfl, ?_⟩; clear hKy Ky; refine ⟨.inr hC0, ?_⟩; walk_nrm; try (simp only [List.setIfInBounds_toArray, List.set_cons_zero, List.set_cons_succ])))
      (first | (refine anyY_take (i := 5) rfl (by kernel_rfl) (by kernel_rfl) (by decide +kernel) (by kernel_rfl) (.inl ⟨rfl, trivial, fun Cw hCw => rfl⟩) hC0 ?_; walk_nrm; try (simp only [List.setIfInBounds_toArray, List.set_cons_zero, List.set_cons_succ])) | (refine anyY_one (i := 5) (by kernel_rfl) ?_; (first | refine opY_nw rfl rfl (show Nw _ from trivial) (fun Ky hKy => ?_) | refine opY_nw rfl rfl (nw_of (by rfl)) (fun Ky hKy => ?_)); go_simp; refine hKy _ _ ⟨rfl, ?_⟩; clear hKy Ky; refine ⟨.inr hC0, ?_⟩; walk_nrm; try (simp only [List.setIfInBounds_toArray, List.set_cons_zero, List.set_cons_succ])))
      (refine anyY_one (i := 6) (by kernel_rfl) ?_)
      (refine opY_callTo (new_cell j (hs _)) rfl rfl rfl (by first | rfl | (simp [Act.eval]; done) | (simp [Act.eval]; rfl) | (simp [Act.eval]; exact ⟨rfl, rfl⟩)) ?_; walk_nrm; try (simp only [List.setIfInBounds_toArray, List.set_cons_zero, List.set_cons_succ]))
      refine ⟨.inr (cell_alloc _ hC0), ?_⟩
      (refine anyY_one (i := 7) (by kernel_rfl) ?_)
      (refine opY_callTo (new_cell 0 (hs _)) rfl rfl rfl (by first | rfl | (simp [Act.eval]; done) | (simp [Act.eval]; rfl) | (simp [Act.eval]; exact ⟨rfl, rfl⟩)) ?_; walk_nrm; try (simp only [List.setIfInBounds_toArray, List.set_cons_zero, List.set_cons_succ]))
      refine ⟨.inr (cell_alloc _ (cell_alloc _ hC0)), ?_⟩
      (refine anyY_one (i := 8) (by kernel_rfl) ?_)
      (refine opY_callTo (new_cell 0 (hs _)) rfl rfl rfl (by first | rfl | (simp [Act.eval]; done) | (simp [Act.eval]; rfl) | (simp [Act.eval]; exact ⟨rfl, rfl⟩)) ?_; walk_nrm; try (simp only [List.setIfInBounds_toArray, List.set_cons_zero, List.set_cons_succ]))
      refine ⟨.inr (cell_alloc _ (cell_alloc _ (cell_alloc _ hC0))), ?_⟩
      (first | (refine anyY_take (i := 9) rfl (by kernel_rfl) (by kernel_rfl) (by decide +kernel) (by kernel_rfl) (.inl ⟨rfl, by exact nw_of (by rfl), fun Cw hCw => by go_simp; try rfl⟩) (cell_alloc _ (cell_alloc _ (cell_alloc _ hC0))) ?_; walk_nrm; try (simp only [List.setIfInBounds_toArray, List.set_cons_zero, List.set_cons_succ])) | (refine anyY_one (i := 9) (by kernel_rfl) ?_; (first | refine opY_nw rfl rfl (show Nw _ from trivial) (fun Ky hKy => ?_) | refine opY_nw rfl rfl (nw_of (by rfl)) (fun Ky hKy => ?_)); go_simp; refine hKy _ _ ⟨rfl, ?_⟩; clear hKy Ky; refine ⟨.inr (cell_alloc _ (cell_alloc _ (cell_alloc _ hC0))), ?_⟩; walk_nrm; try (simp only [List.setIfInBounds_toArray, List.set_cons_zero, List.set_cons_succ])))
      (refine anyY_one (i := 10) (by kernel_rfl) ?_)
      (refine opY_nw rfl rfl (nw_of (by rfl)) (fun Ky hKy => ?_); go_simp; refine hKy _ _ ⟨rfl, ?_⟩; clear hKy Ky; try (simp only [List.setIfInBounds_toArray, List.set_cons_zero, List.set_cons_succ]))
      refine ⟨.inr (cell_alloc _ (cell_alloc _ (cell_alloc _ (cell_alloc _ hC0)))), ?_⟩
      (refine anyY_one (i := 11) (by kernel_rfl) ?_)
      have hrow4 := own_chg (w' := newPlace v j) hLv.row (((((Chg.refl (fun _ => False) v).alloc _).alloc _).alloc _).alloc _) (fun _ _ x => x)
      have hsz4 : v.heap.size ≤ (newPlace v j).heap.size := (((((Chg.refl (fun _ => False) v).alloc _).alloc _).alloc _).alloc _).size
      have hsz3 : (((v.alloc (cellObj j)).alloc (cellObj 0)).alloc (cellObj 0)).heap.size = v.heap.size + 1 + 1 + 1 := by rw [World.size_alloc, World.size_alloc, World.size_alloc]
      have hsz5 : v.heap.size + 1 + 1 + 1 < (newPlace v j).heap.size := by unfold newPlace; rw [World.size_alloc, hsz3]; omega
      refine opY_app (w := newPlace v j) 3 24 (.agg #[.pointer none, .pointer none, .pointer none]) (g := v.heap.size + 1 + 1 + 1) [.pointer (some ⟨v.heap.size, 0, none⟩), .pointer (some ⟨v.heap.size + 1, 0, none⟩), .pointer (some ⟨v.heap.size + 1 + 1, 0, none⟩)] Try.underlying257 (by kernel_rfl) rfl (by omega) (by omega) hrow4 rfl (fun j' x hx => by rw [← hsz3]; exact cells_alloc _ _ (by simpa using hx)) (by intro x hx; simp at hx; rcases hx with rfl | rfl | rfl <;> rfl) (by omega) (by omega) hs hsz5 rfl rfl rfl rfl rfl (fun q' w5 hrow hch => ?_)
      obtain ⟨g1, g2, g3, cb2, g4, g5, g6, g7⟩ := lev_more hLv hN (by omega) (by omega) hsv hrow hch
      obtain ⟨pq, cq, rfl⟩ := own_val hrow
      clear hrow4 hsz4 hsz3 hsz5 hrow hch
      walk_nrm
      refine ⟨.inr g1, ?_⟩
      (first | (refine anyY_take (i := 12) rfl (by kernel_rfl) (by kernel_rfl) (by decide +kernel) (by kernel_rfl) (.inl ⟨rfl, by exact nw_of (by rfl), fun Cw hCw => by go_simp; try rfl⟩) g1 ?_; walk_nrm; try (simp only [List.setIfInBounds_toArray, List.set_cons_zero, List.set_cons_succ])) | (refine anyY_one (i := 12) (by kernel_rfl) ?_; (first | refine opY_nw rfl rfl (show Nw _ from trivial) (fun Ky hKy => ?_) | refine opY_nw rfl rfl (nw_of (by rfl)) (fun Ky hKy => ?_)); go_simp; refine hKy _ _ ⟨rfl, ?_⟩; clear hKy Ky; refine ⟨.inr g1, ?_⟩; walk_nrm; try (simp only [List.setIfInBounds_toArray, List.set_cons_zero, List.set_cons_succ])))
      (first | (refine anyY_take (i := 13) rfl (by kernel_rfl) (by kernel_rfl) (by decide +kernel) (by kernel_rfl) (.inl ⟨rfl, by exact nw_of (by rfl), fun Cw hCw => by go_simp; try rfl⟩) g1 ?_; walk_nrm; try (simp only [List.setIfInBounds_toArray, List.set_cons_zero, List.set_cons_succ])) | (refine anyY_one (i := 13) (by kernel_rfl) ?_; (first | refine opY_nw rfl rfl (show Nw _ from trivial) (fun Ky hKy => ?_) | refine opY_nw rfl rfl (nw_of (by rfl)) (fun Ky hKy => ?_)); go_simp; refine hKy _ _ ⟨rfl, ?_⟩; clear hKy Ky; refine ⟨.inr g1, ?_⟩; walk_nrm; try (simp only [List.setIfInBounds_toArray, List.set_cons_zero, List.set_cons_succ])))
      (refine anyY_one (i := 14) (by kernel_rfl) ?_)
      (refine opY_store1 rfl rfl (by kernel_rfl) rfl rfl rfl rfl g1 (g2 _) (hs _) ?_; walk_nrm; try (simp only [List.setIfInBounds_toArray, List.set_cons_zero, List.set_cons_succ]))
      refine ⟨.inl (by kernel_rfl), anyY_done (by kernel_rfl) (hK _ _ _ _ ?_) _⟩
      clear hK K hC0 g1 g2
      have hP2 := hP.kept g3
      have hC2 := hC.trans g3 (fun b hb hx => by have := hbu; omega)
      have hcb2 : CbX (cinR room i) (cinR room i + 2 + (j + 1) * 3) w.heap.size cb cb2 := ⟨fun k hk => by rw [g4 k (by omega)]; exact hcb.eq k hk, fun k hk => by
        by_cases e : k < cinR room i + 2 + j * 3
        · rw [g4 k e]; exact hcb.lo k e
        · have := g5 k (by omega) hk; omega⟩
      have hs2 := Nat.le_trans hsv g3.size
      revert hP2 hC2 hcb2 hs2 g6 g7
      generalize w5.setCell _ _ = w6
      intro g6 g7 hP2 hC2 hcb2 hs2
      repeat (first | (first | refine codeY_seq ?_ | refine codeY_block ?_ | refine codeY_ret ?_ | refine codeY_skip ?_ | refine codeY_exit ?_ | refine codeY_label ?_ | refine thenY_n ?_ | refine thenY_e ?_ | refine thenY_r ?_ | refine blockY_n ?_ | refine blockY_e ?_ | refine blockY_r ?_ | refine blockY_o rfl ?_ | refine codeY_condT rfl ?_ | refine codeY_condF rfl ?_) | (refine codeY_region_k (fun K hK => ?_); simp only [List.size_toArray, List.length_cons, List.length_nil, Nat.reduceAdd, Nat.zero_add, List.range, List.range.loop]) | (refine opsY_nil ?_; refine hK _ _ _ _ ?_; clear hK K) | (first | (first | (refine opsY_move rfl rfl ?_; walk_nrm) | (refine opsY_assign rfl rfl ?_; walk_nrm)) | (refine opsY_unwanted rfl rfl ?_; walk_nrm) | (refine opsY_nw rfl rfl (nw_of (by rfl)) (fun Ky hKy => ?_); go_simp; refine hKy _ _ ⟨rfl, fun Kx => ?_⟩; clear Kx hKy Ky)))
      refine ⟨⟨rfl, j + 1, cb2, _, by omega, hP2, hC2, g6, hcb2, g7, hs2, junk_intro _ rfl⟩, ?_⟩
      show ((room : Int) - ((j : Int) + 1)).toNat < ((room : Int) - (j : Int)).toNat
      omega
    · have hje : j = room := by omega
      subst hje
      have hC0 : v.cell? ⟨p, 1, none⟩ = some lv := by unfold World.cell?; simp only; rw [hP.obj]; rfl
      repeat (first | (first | refine codeY_seq ?_ | refine codeY_block ?_ | refine codeY_ret ?_ | refine codeY_skip ?_ | refine codeY_exit ?_ | refine codeY_label ?_ | refine thenY_n ?_ | refine thenY_e ?_ | refine thenY_r ?_ | refine blockY_n ?_ | refine blockY_e ?_ | refine blockY_r ?_ | refine blockY_o rfl ?_ | refine codeY_condT rfl ?_ | refine codeY_condF rfl ?_) | (refine codeY_region_k (fun K hK => ?_); simp only [List.size_toArray, List.length_cons, List.length_nil, Nat.reduceAdd, Nat.zero_add, List.range, List.range.loop]) | (refine opsY_nil ?_; refine hK _ _ _ _ ?_; clear hK K) | (first | (first | (refine opsY_move rfl rfl ?_; walk_nrm) | (refine opsY_assign rfl rfl ?_; walk_nrm)) | (refine opsY_unwanted rfl rfl ?_; walk_nrm) | (refine opsY_nw rfl rfl (nw_of (by rfl)) (fun Ky hKy => ?_); go_simp; refine hKy _ _ ⟨rfl, fun Kx => ?_⟩; clear Kx hKy Ky)))
      have hrow4 := own_chg (w' := v.alloc (.cells #[.pointer (some ⟨u.heap.size + 2, 0, none⟩)] 256)) hP.row ((Chg.refl (fun _ => False) v).alloc _) (fun _ _ x => x)
      have hsz5 : v.heap.size < (v.alloc (.cells #[.pointer (some ⟨u.heap.size + 2, 0, none⟩)] 256)).heap.size := by rw [World.size_alloc]; omega
      refine opsY_app 1 8 (.pointer none) (g := v.heap.size) [.pointer (some ⟨u.heap.size + 2, 0, none⟩)] Try.underlying218 (by kernel_rfl) rfl (by omega) (by omega) hrow4 rfl (fun j' x hx => cells_alloc _ _ (by simpa using hx)) (by intro x hx; simp at hx; subst hx; rfl) (by omega) (by omega) hs hsz5 rfl rfl rfl rfl rfl (fun q' w5 hrow hch => ?_)
      obtain ⟨g1, g2, g3, g4, hP2⟩ := pri_more hP hLv hN (fun k hk => hcb.eq k hk) hbu hrow hch
      obtain ⟨pq, cq, rfl⟩ := own_val hrow
      clear hrow4 hsz5 hrow hch
      walk_nrm
      repeat (first | (first | refine codeY_seq ?_ | refine codeY_block ?_ | refine codeY_ret ?_ | refine codeY_skip ?_ | refine codeY_exit ?_ | refine codeY_label ?_ | refine thenY_n ?_ | refine thenY_e ?_ | refine thenY_r ?_ | refine blockY_n ?_ | refine blockY_e ?_ | refine blockY_r ?_ | refine blockY_o rfl ?_ | refine codeY_condT rfl ?_ | refine codeY_condF rfl ?_) | (refine codeY_region_k (fun K hK => ?_); simp only [List.size_toArray, List.length_cons, List.length_nil, Nat.reduceAdd, Nat.zero_add, List.range, List.range.loop]) | (refine opsY_nil ?_; refine hK _ _ _ _ ?_; clear hK K) | (first | (first | (refine opsY_move rfl rfl ?_; walk_nrm) | (refine opsY_assign rfl rfl ?_; walk_nrm)) | (refine opsY_unwanted rfl rfl ?_; walk_nrm) | (refine opsY_nw rfl rfl (nw_of (by rfl)) (fun Ky hKy => ?_); go_simp; refine hKy _ _ ⟨rfl, fun Kx => ?_⟩; clear Kx hKy Ky)))
      (refine opsY_store1 rfl rfl (by kernel_rfl) rfl rfl rfl rfl g1 (g2 _) (hs _) ?_; walk_nrm)
      have hC2 := hC.trans g4 (fun b hb hx => by
        rcases hx with hx | hx
        · have := g3 b hx; omega
        · omega)
      have hlo2 : ∀ k, k < cinR j (i + 1) → w.heap.size ≤ cb' k := fun k hk => hcb.lo k (by unfold cinR at hk ⊢; rw [Nat.succ_mul] at hk; omega)
      clear g1 g2 g3 g4
      revert hP2 hC2
      generalize w5.setCell _ _ = w6
      intro hP2 hC2
      repeat (first | (first | refine codeY_seq ?_ | refine codeY_block ?_ | refine codeY_ret ?_ | refine codeY_skip ?_ | refine codeY_exit ?_ | refine codeY_label ?_ | refine thenY_n ?_ | refine thenY_e ?_ | refine thenY_r ?_ | refine blockY_n ?_ | refine blockY_e ?_ | refine blockY_r ?_ | refine blockY_o rfl ?_ | refine codeY_condT rfl ?_ | refine codeY_condF rfl ?_) | (refine codeY_region_k (fun K hK => ?_); simp only [List.size_toArray, List.length_cons, List.length_nil, Nat.reduceAdd, Nat.zero_add, List.range, List.range.loop]) | (refine opsY_nil ?_; refine hK _ _ _ _ ?_; clear hK K) | (first | (first | (refine opsY_move rfl rfl ?_; walk_nrm) | (refine opsY_assign rfl rfl ?_; walk_nrm)) | (refine opsY_unwanted rfl rfl ?_; walk_nrm) | (refine opsY_nw rfl rfl (nw_of (by rfl)) (fun Ky hKy => ?_); go_simp; refine hKy _ _ ⟨rfl, fun Kx => ?_⟩; clear Kx hKy Ky)))
      refine ⟨⟨rfl, i + 1, cb', _, _, _, by omega, hP2, hC2, hlo2, junk_intro _ rfl⟩, ?_⟩
      show ((L : Int) - ((i : Int) + 1)).toNat < ((L : Int) - (i : Int)).toNat
      omega
  · have hie : i = L := by omega
    subst hie
    obtain ⟨A, hA1, hA2, hA3, hA4, hA5⟩ := pri_done hP h0 h1 h2 h3
    have hAN : A.N = cinR room i := by unfold PA.N cinR; rw [hA1, hA2]
    repeat (first | (first | refine codeY_seq ?_ | refine codeY_block ?_ | refine codeY_ret ?_ | refine codeY_skip ?_ | refine codeY_exit ?_ | refine codeY_label ?_ | refine thenY_n ?_ | refine thenY_e ?_ | refine thenY_r ?_ | refine blockY_n ?_ | refine blockY_e ?_ | refine blockY_r ?_ | refine blockY_o rfl ?_ | refine codeY_condT rfl ?_ | refine codeY_condF rfl ?_) | (refine codeY_region_k (fun K hK => ?_); simp only [List.size_toArray, List.length_cons, List.length_nil, Nat.reduceAdd, Nat.zero_add, List.range, List.range.loop]) | (refine opsY_nil ?_; refine hK _ _ _ _ ?_; clear hK K) | (first | (first | (refine opsY_move rfl rfl ?_; walk_nrm) | (refine opsY_assign rfl rfl ?_; walk_nrm)) | (refine opsY_unwanted rfl rfl ?_; walk_nrm) | (refine opsY_nw rfl rfl (nw_of (by rfl)) (fun Ky hKy => ?_); go_simp; refine hKy _ _ ⟨rfl, fun Kx => ?_⟩; clear Kx hKy Ky)))
    (first | refine bodyY_ret rfl (results_1 Try.results35) ?_ | refine bodyY_ret rfl (results_0 Try.results35) ?_ | refine bodyY_ret rfl (results_2 Try.results35) ?_ | refine bodyY_ret rfl (results_3 Try.results35) ?_ | refine bodyY_end rfl (results_1 Try.results35) ?_ | refine bodyY_end rfl (results_0 Try.results35) ?_ | refine bodyY_end rfl (results_2 Try.results35) ?_ | refine bodyY_end rfl (results_3 Try.results35) ?_)
    refine ⟨rfl, hC, A, hA1, hA2, by rw [hA3]; rfl, hA5, by rw [hA3]; exact hps, fun k hk => ?_⟩
    rw [hA4]
    exact hlo k (by rw [← hAN]; exact hk)
end Go.Proofs.Ythnfheohfnhcpaa.Y
