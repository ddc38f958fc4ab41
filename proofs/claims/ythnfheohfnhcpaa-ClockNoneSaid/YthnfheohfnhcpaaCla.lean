/- The clock: Advance. -/
import Derived.Test.YthnfheohfnhcpaaChg
import Derived.Test.YthnfheohfnhcpaaClu
import Derived.Test.YthnfheohfnhcpaaDrw
import Derived.Test.YthnfheohfnhcpaaProg
import Derived.WalkKit
set_option linter.unusedSimpArgs false
set_option linter.unusedVariables false
set_option maxRecDepth 20000
set_option maxHeartbeats 4000000
namespace Go.Proofs.Ythnfheohfnhcpaa.Y
open Go Go.Conc Go.Proofs
variable {S : Type} {E : Eng Try.prog S}






theorem advance_nil {σ : S} {w : World} {d : Int} : CallTo E 26 #[.pointer none, .pointer none, .int .i64 d] σ w σ (.tuple #[.int .i64 0, .int .i64 2]) w := by
  refine callTo_of Try.func26 (by kernel_rfl) rfl ?_; simp only [Try.ntmps26, List.size_toArray, List.length_cons, List.length_nil, Nat.reduceAdd, Nat.reduceSub, Array.replicate_succ, Array.replicate_zero, List.push_toArray, List.append_toArray, List.nil_append, List.cons_append]
  repeat (first | (first | refine codeY_seq ?_ | refine codeY_block ?_ | refine codeY_ret ?_ | refine codeY_skip ?_ | refine codeY_exit ?_ | refine codeY_label ?_ | refine thenY_n ?_ | refine thenY_e ?_ | refine thenY_r ?_ | refine blockY_n ?_ | refine blockY_e ?_ | refine blockY_r ?_ | refine blockY_o rfl ?_ | refine codeY_condT rfl ?_ | refine codeY_condF rfl ?_) | (refine codeY_region_k (fun K hK => ?_); simp only [List.size_toArray, List.length_cons, List.length_nil, Nat.reduceAdd, Nat.zero_add, List.range, List.range.loop]) | (refine opsY_nil ?_; refine hK _ _ _ _ ?_; clear hK K) | (first | (first | (refine opsY_move rfl rfl ?_; walk_nrm) | (refine opsY_assign rfl rfl ?_; walk_nrm)) | (refine opsY_unwanted rfl rfl ?_; walk_nrm) | (refine opsY_nw rfl rfl (nw_of (by rfl)) (fun Ky hKy => ?_); go_simp; refine hKy _ _ ⟨rfl, fun Kx => ?_⟩; clear Kx hKy Ky)))
  (refine opsY_callTo (cmade_nil) rfl rfl rfl (by first | rfl | (simp [Act.eval]; done) | (simp [Act.eval]; rfl) | (simp [Act.eval]; exact ⟨rfl, rfl⟩)) ?_; walk_nrm)
  repeat (first | (first | refine codeY_seq ?_ | refine codeY_block ?_ | refine codeY_ret ?_ | refine codeY_skip ?_ | refine codeY_exit ?_ | refine codeY_label ?_ | refine thenY_n ?_ | refine thenY_e ?_ | refine thenY_r ?_ | refine blockY_n ?_ | refine blockY_e ?_ | refine blockY_r ?_ | refine blockY_o rfl ?_ | refine codeY_condT rfl ?_ | refine codeY_condF rfl ?_) | (refine codeY_region_k (fun K hK => ?_); simp only [List.size_toArray, List.length_cons, List.length_nil, Nat.reduceAdd, Nat.zero_add, List.range, List.range.loop]) | (refine opsY_nil ?_; refine hK _ _ _ _ ?_; clear hK K) | (first | (first | (refine opsY_move rfl rfl ?_; walk_nrm) | (refine opsY_assign rfl rfl ?_; walk_nrm)) | (refine opsY_unwanted rfl rfl ?_; walk_nrm) | (refine opsY_nw rfl rfl (nw_of (by rfl)) (fun Ky hKy => ?_); go_simp; refine hKy _ _ ⟨rfl, fun Kx => ?_⟩; clear Kx hKy Ky)))
  ((first | refine bodyY_ret rfl (results_1 Try.results26) ?_ | refine bodyY_ret rfl (results_0 Try.results26) ?_ | refine bodyY_ret rfl (results_2 Try.results26) ?_ | refine bodyY_ret rfl (results_3 Try.results26) ?_ | refine bodyY_end rfl (results_1 Try.results26) ?_ | refine bodyY_end rfl (results_0 Try.results26) ?_ | refine bodyY_end rfl (results_2 Try.results26) ?_ | refine bodyY_end rfl (results_3 Try.results26) ?_); exact ⟨rfl, rfl, rfl⟩)
theorem advance_bare {σ : S} {w : World} {b : Nat} {d : Int} (h : w.cell? ⟨b, 0, none⟩ = some (.pointer none)) : CallTo E 26 #[.pointer (some ⟨b, 0, none⟩), .pointer none, .int .i64 d] σ w σ (.tuple #[.int .i64 0, .int .i64 2]) w := by
  refine callTo_of Try.func26 (by kernel_rfl) rfl ?_; simp only [Try.ntmps26, List.size_toArray, List.length_cons, List.length_nil, Nat.reduceAdd, Nat.reduceSub, Array.replicate_succ, Array.replicate_zero, List.push_toArray, List.append_toArray, List.nil_append, List.cons_append]
  repeat (first | (first | refine codeY_seq ?_ | refine codeY_block ?_ | refine codeY_ret ?_ | refine codeY_skip ?_ | refine codeY_exit ?_ | refine codeY_label ?_ | refine thenY_n ?_ | refine thenY_e ?_ | refine thenY_r ?_ | refine blockY_n ?_ | refine blockY_e ?_ | refine blockY_r ?_ | refine blockY_o rfl ?_ | refine codeY_condT rfl ?_ | refine codeY_condF rfl ?_) | (refine codeY_region_k (fun K hK => ?_); simp only [List.size_toArray, List.length_cons, List.length_nil, Nat.reduceAdd, Nat.zero_add, List.range, List.range.loop]) | (refine opsY_nil ?_; refine hK _ _ _ _ ?_; clear hK K) | (first | (first | (refine opsY_move rfl rfl ?_; walk_nrm) | (refine opsY_assign rfl rfl ?_; walk_nrm)) | (refine opsY_unwanted rfl rfl ?_; walk_nrm) | (refine opsY_nw rfl rfl (nw_of (by rfl)) (fun Ky hKy => ?_); go_simp; refine hKy _ _ ⟨rfl, fun Kx => ?_⟩; clear Kx hKy Ky)))
  (refine opsY_callTo (cmade_bare h) rfl rfl rfl (by first | rfl | (simp [Act.eval]; done) | (simp [Act.eval]; rfl) | (simp [Act.eval]; exact ⟨rfl, rfl⟩)) ?_; walk_nrm)
  repeat (first | (first | refine codeY_seq ?_ | refine codeY_block ?_ | refine codeY_ret ?_ | refine codeY_skip ?_ | refine codeY_exit ?_ | refine codeY_label ?_ | refine thenY_n ?_ | refine thenY_e ?_ | refine thenY_r ?_ | refine blockY_n ?_ | refine blockY_e ?_ | refine blockY_r ?_ | refine blockY_o rfl ?_ | refine codeY_condT rfl ?_ | refine codeY_condF rfl ?_) | (refine codeY_region_k (fun K hK => ?_); simp only [List.size_toArray, List.length_cons, List.length_nil, Nat.reduceAdd, Nat.zero_add, List.range, List.range.loop]) | (refine opsY_nil ?_; refine hK _ _ _ _ ?_; clear hK K) | (first | (first | (refine opsY_move rfl rfl ?_; walk_nrm) | (refine opsY_assign rfl rfl ?_; walk_nrm)) | (refine opsY_unwanted rfl rfl ?_; walk_nrm) | (refine opsY_nw rfl rfl (nw_of (by rfl)) (fun Ky hKy => ?_); go_simp; refine hKy _ _ ⟨rfl, fun Kx => ?_⟩; clear Kx hKy Ky)))
  ((first | refine bodyY_ret rfl (results_1 Try.results26) ?_ | refine bodyY_ret rfl (results_0 Try.results26) ?_ | refine bodyY_ret rfl (results_2 Try.results26) ?_ | refine bodyY_ret rfl (results_3 Try.results26) ?_ | refine bodyY_end rfl (results_1 Try.results26) ?_ | refine bodyY_end rfl (results_0 Try.results26) ?_ | refine bodyY_end rfl (results_2 Try.results26) ?_ | refine bodyY_end rfl (results_3 Try.results26) ?_); exact ⟨rfl, rfl, rfl⟩)
theorem advance_busy {σ : S} {w : World} {b : Nat} {d now busy : Int} {st due : Nat → Int} {fs : Nat → Value} (hC : Clk w b now busy st due fs) (hd : 0 ≤ d) (hb : ¬ busy = 0) : CallTo E 26 #[.pointer (some ⟨b + 2, 0, none⟩), .pointer none, .int .i64 d] σ w σ (.tuple #[.int .i64 0, .int .i64 14]) w := by
  have h1 := hC.cnow
  have h2 := hC.cbusy
  have h3 : ¬ d < 0 := by omega
  refine callTo_of Try.func26 (by kernel_rfl) rfl ?_; simp only [Try.ntmps26, List.size_toArray, List.length_cons, List.length_nil, Nat.reduceAdd, Nat.reduceSub, Array.replicate_succ, Array.replicate_zero, List.push_toArray, List.append_toArray, List.nil_append, List.cons_append]
  repeat (first | (first | refine codeY_seq ?_ | refine codeY_block ?_ | refine codeY_ret ?_ | refine codeY_skip ?_ | refine codeY_exit ?_ | refine codeY_label ?_ | refine thenY_n ?_ | refine thenY_e ?_ | refine thenY_r ?_ | refine blockY_n ?_ | refine blockY_e ?_ | refine blockY_r ?_ | refine blockY_o rfl ?_ | refine codeY_condT rfl ?_ | refine codeY_condF rfl ?_) | (refine codeY_region_k (fun K hK => ?_); simp only [List.size_toArray, List.length_cons, List.length_nil, Nat.reduceAdd, Nat.zero_add, List.range, List.range.loop]) | (refine opsY_nil ?_; refine hK _ _ _ _ ?_; clear hK K) | (first | (first | (refine opsY_move rfl rfl ?_; walk_nrm) | (refine opsY_assign rfl rfl ?_; walk_nrm)) | (refine opsY_unwanted rfl rfl ?_; walk_nrm) | (refine opsY_nw rfl rfl (nw_of (by rfl)) (fun Ky hKy => ?_); go_simp; refine hKy _ _ ⟨rfl, fun Kx => ?_⟩; clear Kx hKy Ky)))
  (refine opsY_callTo (cmade_yes h1) rfl rfl rfl (by first | rfl | (simp [Act.eval]; done) | (simp [Act.eval]; rfl) | (simp [Act.eval]; exact ⟨rfl, rfl⟩)) ?_; walk_nrm)
  repeat (first | (first | refine codeY_seq ?_ | refine codeY_block ?_ | refine codeY_ret ?_ | refine codeY_skip ?_ | refine codeY_exit ?_ | refine codeY_label ?_ | refine thenY_n ?_ | refine thenY_e ?_ | refine thenY_r ?_ | refine blockY_n ?_ | refine blockY_e ?_ | refine blockY_r ?_ | refine blockY_o rfl ?_ | refine codeY_condT rfl ?_ | refine codeY_condF rfl ?_) | (refine codeY_region_k (fun K hK => ?_); simp only [List.size_toArray, List.length_cons, List.length_nil, Nat.reduceAdd, Nat.zero_add, List.range, List.range.loop]) | (refine opsY_nil ?_; refine hK _ _ _ _ ?_; clear hK K) | (first | (first | (refine opsY_move rfl rfl ?_; walk_nrm) | (refine opsY_assign rfl rfl ?_; walk_nrm)) | (refine opsY_unwanted rfl rfl ?_; walk_nrm) | (refine opsY_nw rfl rfl (nw_of (by rfl)) (fun Ky hKy => ?_); go_simp; refine hKy _ _ ⟨rfl, fun Kx => ?_⟩; clear Kx hKy Ky)))
  (refine opsY_callTo (casmiss_nil (u := 1) hC.busy hb) rfl rfl rfl (by first | rfl | (simp [Act.eval]; done) | (simp [Act.eval]; rfl) | (simp [Act.eval]; exact ⟨rfl, rfl⟩)) ?_; walk_nrm)
  repeat (first | (first | refine codeY_seq ?_ | refine codeY_block ?_ | refine codeY_ret ?_ | refine codeY_skip ?_ | refine codeY_exit ?_ | refine codeY_label ?_ | refine thenY_n ?_ | refine thenY_e ?_ | refine thenY_r ?_ | refine blockY_n ?_ | refine blockY_e ?_ | refine blockY_r ?_ | refine blockY_o rfl ?_ | refine codeY_condT rfl ?_ | refine codeY_condF rfl ?_) | (refine codeY_region_k (fun K hK => ?_); simp only [List.size_toArray, List.length_cons, List.length_nil, Nat.reduceAdd, Nat.zero_add, List.range, List.range.loop]) | (refine opsY_nil ?_; refine hK _ _ _ _ ?_; clear hK K) | (first | (first | (refine opsY_move rfl rfl ?_; walk_nrm) | (refine opsY_assign rfl rfl ?_; walk_nrm)) | (refine opsY_unwanted rfl rfl ?_; walk_nrm) | (refine opsY_nw rfl rfl (nw_of (by rfl)) (fun Ky hKy => ?_); go_simp; refine hKy _ _ ⟨rfl, fun Kx => ?_⟩; clear Kx hKy Ky)))
  ((first | refine bodyY_ret rfl (results_1 Try.results26) ?_ | refine bodyY_ret rfl (results_0 Try.results26) ?_ | refine bodyY_ret rfl (results_2 Try.results26) ?_ | refine bodyY_ret rfl (results_3 Try.results26) ?_ | refine bodyY_end rfl (results_1 Try.results26) ?_ | refine bodyY_end rfl (results_0 Try.results26) ?_ | refine bodyY_end rfl (results_2 Try.results26) ?_ | refine bodyY_end rfl (results_3 Try.results26) ?_); exact ⟨rfl, rfl, rfl⟩)
/-- What is asked of an invariant of the rings of one 'Advance'. -/
structure RingInv (E : Eng Try.prog S) (σ : S) (b : Nat) (t : Int) (Inv : Nat → (Nat → Int) → (Nat → Int) → (Nat → Value) → World → Prop) : Prop where
  stable : ∀ {r st due fs u u'}, Inv r st due fs u → Chg (InClk b) u u' → Inv r st due fs u'
  bound : ∀ {r st due fs u}, Inv r st due fs u → ∀ i, i < 16 → 0 ≤ st i ∧ st i ≤ 4611686018427387904
  rings : ∀ {r st due fs u}, Inv r st due fs u → r < 64 → ∀ m, Nxt st due t 16 m → ∀ u1, Chg (InClk b) u u1 → Clk u1 b t 1 (up st m (st m + 1)) due fs →
    ∃ (fn : FuncId) (cap : Array Value) (T : Nat → Prop), fs m = .func (.func fn) #[] cap ∧ (∀ x, T x → x < u.heap.size) ∧ CallR E fn (#[.pointer none] ++ cap) σ u1 (fun s v u2 => s = σ ∧ Chg T u1 u2 ∧ ∃ st' due' fs', Clk u2 b t 1 st' due' fs' ∧ st' m = st m + 1 ∧ ∀ u3, Chg (InClk b) u2 u3 → Inv (r + 1) (up st' m (st m + 2)) due' fs' u3)
theorem advance_is {σ : S} {w : World} {b : Nat} {d now : Int} {st due : Nat → Int} {fs : Nat → Value} {Inv : Nat → (Nat → Int) → (Nat → Int) → (Nat → Value) → World → Prop} (hL : Lone E σ) (hC : Clk w b now 0 st due fs) (hd : 0 ≤ d) (hn0 : 0 ≤ now) (hn1 : now ≤ 4611686018427387904)
    (hR : RingInv E σ b (now + min d (4611686018427387904 - now)) Inv) (hI : Inv 0 st due fs w) :
    CallR E 26 #[.pointer (some ⟨b + 2, 0, none⟩), .pointer none, .int .i64 d] σ w (fun s v u => s = σ ∧ ∃ (r : Nat) (st' due' : Nat → Int) (fs' : Nat → Value), r ≤ 64 ∧ v = .tuple #[.int .i64 r, .int .i64 0] ∧ Clk u b (now + min d (4611686018427387904 - now)) 0 st' due' fs' ∧ Inv r st' due' fs' u ∧ (r = 64 ∨ ∀ j, j < 16 → ¬ Rdy st' due' (now + min d (4611686018427387904 - now)) j)) := by
  have hs := hL.no
  have h1 := hC.cnow
  have h2 := hC.cbusy
  have h3 : ¬ d < 0 := by omega
  obtain ⟨t, ht⟩ : ∃ t, t = now + min d (4611686018427387904 - now) := ⟨_, rfl⟩
  rw [← ht] at hR ⊢
  have ht0 : 0 ≤ t := by omega
  have ht1 : t ≤ 4611686018427387904 := by omega
  have hw1 := wrap64 (x := 4611686018427387904 - now) (by omega) (by omega)
  have hw2 : IntKind.i64.wrap (now + if 4611686018427387904 - now < d then 4611686018427387904 - now else d) = t := by
    rw [wrap64 (by split <;> omega) (by split <;> omega), ht]; split <;> omega
  clear ht
  refine callR_of Try.func26 (by kernel_rfl) rfl ?_; simp only [Try.ntmps26, List.size_toArray, List.length_cons, List.length_nil, Nat.reduceAdd, Nat.reduceSub, Array.replicate_succ, Array.replicate_zero, List.push_toArray, List.append_toArray, List.nil_append, List.cons_append]
  repeat (first | (first | refine codeY_seq ?_ | refine codeY_block ?_ | refine codeY_ret ?_ | refine codeY_skip ?_ | refine codeY_exit ?_ | refine codeY_label ?_ | refine thenY_n ?_ | refine thenY_e ?_ | refine thenY_r ?_ | refine blockY_n ?_ | refine blockY_e ?_ | refine blockY_r ?_ | refine blockY_o rfl ?_ | refine codeY_condT rfl ?_ | refine codeY_condF rfl ?_) | (refine codeY_region_k (fun K hK => ?_); simp only [List.size_toArray, List.length_cons, List.length_nil, Nat.reduceAdd, Nat.zero_add, List.range, List.range.loop]) | (refine opsY_nil ?_; refine hK _ _ _ _ ?_; clear hK K) | (first | (first | (refine opsY_move rfl rfl ?_; walk_nrm) | (refine opsY_assign rfl rfl ?_; walk_nrm)) | (refine opsY_unwanted rfl rfl ?_; walk_nrm) | (refine opsY_nw rfl rfl (nw_of (by rfl)) (fun Ky hKy => ?_); go_simp; refine hKy _ _ ⟨rfl, fun Kx => ?_⟩; clear Kx hKy Ky)))
  (refine opsY_callTo (cmade_yes h1) rfl rfl rfl (by first | rfl | (simp [Act.eval]; done) | (simp [Act.eval]; rfl) | (simp [Act.eval]; exact ⟨rfl, rfl⟩)) ?_; walk_nrm)
  repeat (first | (first | refine codeY_seq ?_ | refine codeY_block ?_ | refine codeY_ret ?_ | refine codeY_skip ?_ | refine codeY_exit ?_ | refine codeY_label ?_ | refine thenY_n ?_ | refine thenY_e ?_ | refine thenY_r ?_ | refine blockY_n ?_ | refine blockY_e ?_ | refine blockY_r ?_ | refine blockY_o rfl ?_ | refine codeY_condT rfl ?_ | refine codeY_condF rfl ?_) | (refine codeY_region_k (fun K hK => ?_); simp only [List.size_toArray, List.length_cons, List.length_nil, Nat.reduceAdd, Nat.zero_add, List.range, List.range.loop]) | (refine opsY_nil ?_; refine hK _ _ _ _ ?_; clear hK K) | (first | (first | (refine opsY_move rfl rfl ?_; walk_nrm) | (refine opsY_assign rfl rfl ?_; walk_nrm)) | (refine opsY_unwanted rfl rfl ?_; walk_nrm) | (refine opsY_nw rfl rfl (nw_of (by rfl)) (fun Ky hKy => ?_); go_simp; refine hKy _ _ ⟨rfl, fun Kx => ?_⟩; clear Kx hKy Ky)))
  (refine opsY_callTo (cashit_nil 1 hL.may hC.busy (fun o => hs _)) rfl rfl rfl (by first | rfl | (simp [Act.eval]; done) | (simp [Act.eval]; rfl) | (simp [Act.eval]; exact ⟨rfl, rfl⟩)) ?_; walk_nrm)
  have hC1 := hC.setBusy 1
  have hI1 := hR.stable hI ((Chg.refl (InClk b) w).setCell (a := ⟨b + 1, 0, none⟩) (.int .i64 1) (.inl ⟨by simp, by simp⟩))
  clear h1 h2 hC hI
  revert hC1 hI1
  generalize w.setCell ⟨b + 1, 0, none⟩ (.int .i64 1) = w1
  intro hC1 hI1
  have h1 := hC1.cnow
  repeat (first | (first | refine codeY_seq ?_ | refine codeY_block ?_ | refine codeY_ret ?_ | refine codeY_skip ?_ | refine codeY_exit ?_ | refine codeY_label ?_ | refine thenY_n ?_ | refine thenY_e ?_ | refine thenY_r ?_ | refine blockY_n ?_ | refine blockY_e ?_ | refine blockY_r ?_ | refine blockY_o rfl ?_ | refine codeY_condT rfl ?_ | refine codeY_condF rfl ?_) | (refine codeY_region_k (fun K hK => ?_); simp only [List.size_toArray, List.length_cons, List.length_nil, Nat.reduceAdd, Nat.zero_add, List.range, List.range.loop]) | (refine opsY_nil ?_; refine hK _ _ _ _ ?_; clear hK K) | (first | (first | (refine opsY_move rfl rfl ?_; walk_nrm) | (refine opsY_assign rfl rfl ?_; walk_nrm)) | (refine opsY_unwanted rfl rfl ?_; walk_nrm) | (refine opsY_nw rfl rfl (nw_of (by rfl)) (fun Ky hKy => ?_); go_simp; refine hKy _ _ ⟨rfl, fun Kx => ?_⟩; clear Kx hKy Ky)))
  (refine opsY_callTo (load_nil hC1.now) rfl rfl rfl (by first | rfl | (simp [Act.eval]; done) | (simp [Act.eval]; rfl) | (simp [Act.eval]; exact ⟨rfl, rfl⟩)) ?_; walk_nrm)
  repeat (first | (first | refine codeY_seq ?_ | refine codeY_block ?_ | refine codeY_ret ?_ | refine codeY_skip ?_ | refine codeY_exit ?_ | refine codeY_label ?_ | refine thenY_n ?_ | refine thenY_e ?_ | refine thenY_r ?_ | refine blockY_n ?_ | refine blockY_e ?_ | refine blockY_r ?_ | refine blockY_o rfl ?_ | refine codeY_condT rfl ?_ | refine codeY_condF rfl ?_) | (refine codeY_region_k (fun K hK => ?_); simp only [List.size_toArray, List.length_cons, List.length_nil, Nat.reduceAdd, Nat.zero_add, List.range, List.range.loop]) | (refine opsY_nil ?_; refine hK _ _ _ _ ?_; clear hK K) | (first | (first | (refine opsY_move rfl rfl ?_; walk_nrm) | (refine opsY_assign rfl rfl ?_; walk_nrm)) | (refine opsY_unwanted rfl rfl ?_; walk_nrm) | (refine opsY_nw rfl rfl (nw_of (by rfl)) (fun Ky hKy => ?_); go_simp; refine hKy _ _ ⟨rfl, fun Kx => ?_⟩; clear Kx hKy Ky)))
  (refine opsY_callTo (store_nil t hL.may hC1.now (fun o => hs _)) rfl rfl rfl (by first | rfl | (simp [Act.eval]; done) | (simp [Act.eval]; rfl) | (simp [Act.eval]; exact ⟨rfl, rfl⟩)) ?_; walk_nrm)
  have hC2 := hC1.setNow t
  have hI2 := hR.stable hI1 ((Chg.refl (InClk b) w1).setCell (a := ⟨b, 0, none⟩) (.int .i64 t) (.inl ⟨by simp, by simp⟩))
  clear h1 hC1 hI1 hw1 hw2
  revert hC2 hI2
  generalize w1.setCell ⟨b, 0, none⟩ (.int .i64 t) = w2
  intro hC2 hI2
  repeat (first | (first | refine codeY_seq ?_ | refine codeY_block ?_ | refine codeY_ret ?_ | refine codeY_skip ?_ | refine codeY_exit ?_ | refine codeY_label ?_ | refine thenY_n ?_ | refine thenY_e ?_ | refine thenY_r ?_ | refine blockY_n ?_ | refine blockY_e ?_ | refine blockY_r ?_ | refine blockY_o rfl ?_ | refine codeY_condT rfl ?_ | refine codeY_condF rfl ?_) | (refine codeY_region_k (fun K hK => ?_); simp only [List.size_toArray, List.length_cons, List.length_nil, Nat.reduceAdd, Nat.zero_add, List.range, List.range.loop]) | (refine opsY_nil ?_; refine hK _ _ _ _ ?_; clear hK K) | (first | (first | (refine opsY_move rfl rfl ?_; walk_nrm) | (refine opsY_assign rfl rfl ?_; walk_nrm)) | (refine opsY_unwanted rfl rfl ?_; walk_nrm) | (refine opsY_nw rfl rfl (nw_of (by rfl)) (fun Ky hKy => ?_); go_simp; refine hKy _ _ ⟨rfl, fun Kx => ?_⟩; clear Kx hKy Ky)))
  refine codeY_loop (fun s a u => s = σ ∧ ∃ (r : Nat) (st' due' : Nat → Int) (fs' : Nat → Value), r ≤ 64 ∧ Clk u b t 1 st' due' fs' ∧ Inv r st' due' fs' u ∧ ∃ jk : Nat → Value, a = (⟨#[.pointer (some ⟨b + 2, 0, none⟩), .pointer none, .int .i64 d, jk 3, jk 4, jk 5, jk 6, jk 7, .int .i64 t, .int .i64 r, jk 10, jk 11, jk 12, jk 13, jk 14, jk 15, jk 16, jk 17, jk 18, jk 19, jk 20, jk 21, jk 22, jk 23, jk 24, jk 25, jk 26, jk 27, jk 28, jk 29, jk 30, jk 31, jk 32, jk 33, jk 34, jk 35, jk 36, jk 37, jk 38, jk 39, jk 40, jk 41, jk 42, jk 43, jk 44, jk 45, jk 46, jk 47, jk 48, jk 49, jk 50, jk 51, jk 52, jk 53, jk 54, jk 55, jk 56, jk 57, jk 58, jk 59, jk 60, jk 61, jk 62, jk 63, jk 64, jk 65, jk 66, jk 67, jk 68, jk 69, jk 70, jk 71, jk 72, jk 73, jk 74, jk 75, jk 76, jk 77, jk 78, jk 79, jk 80, jk 81, jk 82, jk 83, jk 84, jk 85, jk 86, jk 87, jk 88, jk 89, jk 90, jk 91, jk 92, jk 93, jk 94, jk 95, jk 96, jk 97, jk 98, jk 99, jk 100], []⟩ : Act)) (fun _ a _ => match a.tmps.getD 9 undef with | .int _ x => (64 - x).toNat | _ => 0) ⟨rfl, 0, st, due, fs, by omega, hC2, hI2, junk_intro _ rfl⟩ ?_
  clear hC2 hI2
  rintro σ' a' u ⟨rfl, r, st, due, fs, hr, hC, hI, jk, rfl⟩
  have hlt35 := (hC.due 15 (by omega)).lt
  repeat (first | (first | refine codeY_seq ?_ | refine codeY_block ?_ | refine codeY_ret ?_ | refine codeY_skip ?_ | refine codeY_exit ?_ | refine codeY_label ?_ | refine thenY_n ?_ | refine thenY_e ?_ | refine thenY_r ?_ | refine blockY_n ?_ | refine blockY_e ?_ | refine blockY_r ?_ | refine blockY_o rfl ?_ | refine codeY_condT rfl ?_ | refine codeY_condF rfl ?_) | (refine codeY_region_k (fun K hK => ?_); simp only [List.size_toArray, List.length_cons, List.length_nil, Nat.reduceAdd, Nat.zero_add, List.range, List.range.loop]) | (refine opsY_nil ?_; refine hK _ _ _ _ ?_; clear hK K) | (first | (first | (refine opsY_move rfl rfl ?_; walk_nrm) | (refine opsY_assign rfl rfl ?_; walk_nrm)) | (refine opsY_unwanted rfl rfl ?_; walk_nrm) | (refine opsY_nw rfl rfl (nw_of (by rfl)) (fun Ky hKy => ?_); go_simp; refine hKy _ _ ⟨rfl, fun Kx => ?_⟩; clear Kx hKy Ky)))
  (refine opsY_callR (look_is t hL hC) rfl rfl rfl (by first | rfl | (simp [Act.eval]; done) | (simp [Act.eval]; rfl) | (simp [Act.eval]; exact ⟨rfl, rfl⟩)) ?_)
  rintro s v u1 ⟨rfl, o, hF, rfl, hch⟩
  have hC1 := hC.kept hch (fun _ _ x => x)
  have hI1 := hR.stable hI (hch.mono (fun _ _ x => x.elim))
  have hsz1 := hch.size
  clear hch hC hI
  walk_nrm
  repeat (first | (first | refine codeY_seq ?_ | refine codeY_block ?_ | refine codeY_ret ?_ | refine codeY_skip ?_ | refine codeY_exit ?_ | refine codeY_label ?_ | refine thenY_n ?_ | refine thenY_e ?_ | refine thenY_r ?_ | refine blockY_n ?_ | refine blockY_e ?_ | refine blockY_r ?_ | refine blockY_o rfl ?_ | refine codeY_condT rfl ?_ | refine codeY_condF rfl ?_) | (refine codeY_region_k (fun K hK => ?_); simp only [List.size_toArray, List.length_cons, List.length_nil, Nat.reduceAdd, Nat.zero_add, List.range, List.range.loop]) | (refine opsY_nil ?_; refine hK _ _ _ _ ?_; clear hK K) | (first | (first | (refine opsY_move rfl rfl ?_; walk_nrm) | (refine opsY_assign rfl rfl ?_; walk_nrm)) | (refine opsY_unwanted rfl rfl ?_; walk_nrm) | (refine opsY_nw rfl rfl (nw_of (by rfl)) (fun Ky hKy => ?_); go_simp; refine hKy _ _ ⟨rfl, fun Kx => ?_⟩; clear Kx hKy Ky)))
  obtain ⟨a0, a1, az⟩ := two_alloc u1 (.int .i64 0) (.int .i64 0) 32
  (refine opsY_store2 rfl rfl rfl rfl (by kernel_rfl) rfl rfl a0 a1 az (fun o => hs _) ?_; walk_nrm)
  have ex : ((u1.alloc (.cells #[.int .i64 0, .int .i64 0] 32)).setCell ⟨u1.heap.size, 0, none⟩ (.int .i64 (fSlot o))).setCell ⟨u1.heap.size, 0 + 1, none⟩ (.int .i64 (fRing st o)) = u1.alloc (.cells #[.int .i64 (fSlot o), .int .i64 (fRing st o)] 32) := by
    rw [alloc_set, alloc_set]; rfl
  rw [ex]
  clear ex a0 a1 az
  obtain ⟨x0, x1, xz⟩ := two_alloc u1 (.int .i64 (fSlot o)) (.int .i64 (fRing st o)) 32
  have hk2 : Chg (fun _ => False) u1 (u1.alloc (.cells #[.int .i64 (fSlot o), .int .i64 (fRing st o)] 32)) := (Chg.refl _ _).alloc _
  have hC2 := hC1.kept hk2 (fun _ _ x => x)
  have hI2 := hR.stable hI1 (hk2.mono (fun _ _ x => x.elim))
  have hsz2 := hk2.size
  clear hC1
  revert x0 x1 xz hC2 hI2 hsz2 hk2
  generalize (u1.alloc (.cells #[.int .i64 (fSlot o), .int .i64 (fRing st o)] 32)) = u2
  intro x0 x1 xz hk2 hC2 hI2 hsz2
  cases o with
  | none =>
    have hbu := hC2.cbusy
    repeat (first | (first | refine codeY_seq ?_ | refine codeY_block ?_ | refine codeY_ret ?_ | refine codeY_skip ?_ | refine codeY_exit ?_ | refine codeY_label ?_ | refine thenY_n ?_ | refine thenY_e ?_ | refine thenY_r ?_ | refine blockY_n ?_ | refine blockY_e ?_ | refine blockY_r ?_ | refine blockY_o rfl ?_ | refine codeY_condT rfl ?_ | refine codeY_condF rfl ?_) | (refine codeY_region_k (fun K hK => ?_); simp only [List.size_toArray, List.length_cons, List.length_nil, Nat.reduceAdd, Nat.zero_add, List.range, List.range.loop]) | (refine opsY_nil ?_; refine hK _ _ _ _ ?_; clear hK K) | (first | (first | (refine opsY_move rfl rfl ?_; walk_nrm) | (refine opsY_assign rfl rfl ?_; walk_nrm)) | (refine opsY_unwanted rfl rfl ?_; walk_nrm) | (refine opsY_nw rfl rfl (nw_of (by rfl)) (fun Ky hKy => ?_); go_simp; refine hKy _ _ ⟨rfl, fun Kx => ?_⟩; clear Kx hKy Ky)))
    (refine opsY_callTo (store_nil 0 hL.may hC2.busy (fun o => hs _)) rfl rfl rfl (by first | rfl | (simp [Act.eval]; done) | (simp [Act.eval]; rfl) | (simp [Act.eval]; exact ⟨rfl, rfl⟩)) ?_; walk_nrm)
    have hC3 := hC2.setBusy 0
    have hI3 := hR.stable hI2 ((Chg.refl (InClk b) u2).setCell (a := ⟨b + 1, 0, none⟩) (.int .i64 0) (.inl ⟨by simp, by simp⟩))
    repeat (first | (first | refine codeY_seq ?_ | refine codeY_block ?_ | refine codeY_ret ?_ | refine codeY_skip ?_ | refine codeY_exit ?_ | refine codeY_label ?_ | refine thenY_n ?_ | refine thenY_e ?_ | refine thenY_r ?_ | refine blockY_n ?_ | refine blockY_e ?_ | refine blockY_r ?_ | refine blockY_o rfl ?_ | refine codeY_condT rfl ?_ | refine codeY_condF rfl ?_) | (refine codeY_region_k (fun K hK => ?_); simp only [List.size_toArray, List.length_cons, List.length_nil, Nat.reduceAdd, Nat.zero_add, List.range, List.range.loop]) | (refine opsY_nil ?_; refine hK _ _ _ _ ?_; clear hK K) | (first | (first | (refine opsY_move rfl rfl ?_; walk_nrm) | (refine opsY_assign rfl rfl ?_; walk_nrm)) | (refine opsY_unwanted rfl rfl ?_; walk_nrm) | (refine opsY_nw rfl rfl (nw_of (by rfl)) (fun Ky hKy => ?_); go_simp; refine hKy _ _ ⟨rfl, fun Kx => ?_⟩; clear Kx hKy Ky)))
    (first | refine bodyY_ret rfl (results_1 Try.results26) ?_ | refine bodyY_ret rfl (results_0 Try.results26) ?_ | refine bodyY_ret rfl (results_2 Try.results26) ?_ | refine bodyY_ret rfl (results_3 Try.results26) ?_ | refine bodyY_end rfl (results_1 Try.results26) ?_ | refine bodyY_end rfl (results_0 Try.results26) ?_ | refine bodyY_end rfl (results_2 Try.results26) ?_ | refine bodyY_end rfl (results_3 Try.results26) ?_)
    exact ⟨rfl, r, st, due, fs, hr, rfl, hC3, hI3, .inr hF⟩
  | some m =>
    by_cases hr64 : r = 64
    · subst hr64
      have hbu := hC2.cbusy
      repeat (first | (first | refine codeY_seq ?_ | refine codeY_block ?_ | refine codeY_ret ?_ | refine codeY_skip ?_ | refine codeY_exit ?_ | refine codeY_label ?_ | refine thenY_n ?_ | refine thenY_e ?_ | refine thenY_r ?_ | refine blockY_n ?_ | refine blockY_e ?_ | refine blockY_r ?_ | refine blockY_o rfl ?_ | refine codeY_condT rfl ?_ | refine codeY_condF rfl ?_) | (refine codeY_region_k (fun K hK => ?_); simp only [List.size_toArray, List.length_cons, List.length_nil, Nat.reduceAdd, Nat.zero_add, List.range, List.range.loop]) | (refine opsY_nil ?_; refine hK _ _ _ _ ?_; clear hK K) | (first | (first | (refine opsY_move rfl rfl ?_; walk_nrm) | (refine opsY_assign rfl rfl ?_; walk_nrm)) | (refine opsY_unwanted rfl rfl ?_; walk_nrm) | (refine opsY_nw rfl rfl (nw_of (by rfl)) (fun Ky hKy => ?_); go_simp; refine hKy _ _ ⟨rfl, fun Kx => ?_⟩; clear Kx hKy Ky)))
      (refine opsY_callTo (store_nil 0 hL.may hC2.busy (fun o => hs _)) rfl rfl rfl (by first | rfl | (simp [Act.eval]; done) | (simp [Act.eval]; rfl) | (simp [Act.eval]; exact ⟨rfl, rfl⟩)) ?_; walk_nrm)
      have hC3 := hC2.setBusy 0
      have hI3 := hR.stable hI2 ((Chg.refl (InClk b) u2).setCell (a := ⟨b + 1, 0, none⟩) (.int .i64 0) (.inl ⟨by simp, by simp⟩))
      repeat (first | (first | refine codeY_seq ?_ | refine codeY_block ?_ | refine codeY_ret ?_ | refine codeY_skip ?_ | refine codeY_exit ?_ | refine codeY_label ?_ | refine thenY_n ?_ | refine thenY_e ?_ | refine thenY_r ?_ | refine blockY_n ?_ | refine blockY_e ?_ | refine blockY_r ?_ | refine blockY_o rfl ?_ | refine codeY_condT rfl ?_ | refine codeY_condF rfl ?_) | (refine codeY_region_k (fun K hK => ?_); simp only [List.size_toArray, List.length_cons, List.length_nil, Nat.reduceAdd, Nat.zero_add, List.range, List.range.loop]) | (refine opsY_nil ?_; refine hK _ _ _ _ ?_; clear hK K) | (first | (first | (refine opsY_move rfl rfl ?_; walk_nrm) | (refine opsY_assign rfl rfl ?_; walk_nrm)) | (refine opsY_unwanted rfl rfl ?_; walk_nrm) | (refine opsY_nw rfl rfl (nw_of (by rfl)) (fun Ky hKy => ?_); go_simp; refine hKy _ _ ⟨rfl, fun Kx => ?_⟩; clear Kx hKy Ky)))
      (first | refine bodyY_ret rfl (results_1 Try.results26) ?_ | refine bodyY_ret rfl (results_0 Try.results26) ?_ | refine bodyY_ret rfl (results_2 Try.results26) ?_ | refine bodyY_ret rfl (results_3 Try.results26) ?_ | refine bodyY_end rfl (results_1 Try.results26) ?_ | refine bodyY_end rfl (results_0 Try.results26) ?_ | refine bodyY_end rfl (results_2 Try.results26) ?_ | refine bodyY_end rfl (results_3 Try.results26) ?_)
      exact ⟨rfl, 64, st, due, fs, hr, rfl, hC3, hI3, .inl rfl⟩
    · have hr64' : ((r : Int) == 64) = false := by simp; omega
      have hm := hF.1
      have hb := hR.bound hI2 m hm
      have x0' : u2.cell? ⟨u1.heap.size, 0, none⟩ = some (.int .i64 m) := x0
      have x1' : u2.cell? ⟨u1.heap.size, 1, none⟩ = some (.int .i64 (st m)) := x1
      clear x0 x1
      have hm0 : (0 : Int) ≤ m := by omega
      have hm1 : (m : Int) < 16 := by omega
      have hst := hC2.cst m hm
      have hfm := hC2.cf m hm
      have hCw : (fun u : World => u.cell? ⟨u1.heap.size, 0, none⟩ = some (.int .i64 m) ∧ u.cell? ⟨u1.heap.size, 1, none⟩ = some (.int .i64 (st m)) ∧ u.cell? ⟨b + 2, 2 + m * 3, none⟩ = some (.pointer (some ⟨b + 3 + 2 * m, 0, none⟩))) u2 := ⟨x0', x1', hst⟩
      have hv1 := wrap64 (x := st m + 3) (by omega) (by omega)
      have hv2 := wrap64 (x := st m + 3 - 2) (by omega) (by omega)
      have hv3 := wrap64 (x := st m + 4) (by omega) (by omega)
      have hv4 := wrap64 (x := st m + 4 - 2) (by omega) (by omega)
      have hv5 := wrap64 (x := (r : Int) + 1) (by omega) (by omega)
      repeat (first | (first | refine codeY_seq ?_ | refine codeY_block ?_ | refine codeY_ret ?_ | refine codeY_skip ?_ | refine codeY_exit ?_ | refine codeY_label ?_ | refine thenY_n ?_ | refine thenY_e ?_ | refine thenY_r ?_ | refine blockY_n ?_ | refine blockY_e ?_ | refine blockY_r ?_ | refine blockY_o rfl ?_ | refine codeY_condT rfl ?_ | refine codeY_condF rfl ?_) | (refine codeY_region_k (fun K hK => ?_); simp only [List.size_toArray, List.length_cons, List.length_nil, Nat.reduceAdd, Nat.zero_add, List.range, List.range.loop]) | (refine opsY_nil ?_; refine hK _ _ _ _ ?_; clear hK K) | (first | (first | (refine opsY_move rfl rfl ?_; walk_nrm) | (refine opsY_assign rfl rfl ?_; walk_nrm)) | (refine opsY_unwanted rfl rfl ?_; walk_nrm) | (refine opsY_nw rfl rfl (nw_of (by rfl)) (fun Ky hKy => ?_); go_simp; refine hKy _ _ ⟨rfl, fun Kx => ?_⟩; clear Kx hKy Ky)))
      (refine codeY_drawn_k (fun u : World => u.cell? ⟨u1.heap.size, 0, none⟩ = some (.int .i64 m) ∧ u.cell? ⟨u1.heap.size, 1, none⟩ = some (.int .i64 (st m)) ∧ u.cell? ⟨b + 2, 2 + m * 3, none⟩ = some (.pointer (some ⟨b + 3 + 2 * m, 0, none⟩))) (by kernel_rfl) (fun K hK => ?_); simp only [List.size_toArray, List.length_cons, List.length_nil, Nat.reduceAdd, Nat.zero_add, Array.replicate_succ, Array.replicate_zero, List.push_toArray, List.nil_append, List.cons_append])
      (refine anyY_take (i := 0) rfl (by kernel_rfl) (by kernel_rfl) (by kernel_rfl) (.inl ⟨rfl, trivial, fun Cw hCw => rfl⟩) hCw ?_; walk_nrm; try (simp only [List.setIfInBounds_toArray, List.set_cons_zero, List.set_cons_succ]))
      (refine anyY_take (i := 1) rfl (by kernel_rfl) (by kernel_rfl) (by kernel_rfl) (.inl ⟨rfl, by exact nw_of (by rfl), fun Cw hCw => by go_simp; try rfl⟩) hCw ?_; walk_nrm; try (simp only [List.setIfInBounds_toArray, List.set_cons_zero, List.set_cons_succ]))
      (refine anyY_take (i := 2) rfl (by kernel_rfl) (by kernel_rfl) (by kernel_rfl) (.inl ⟨rfl, by exact nw_of (by rfl), fun Cw hCw => by go_simp; try rfl⟩) hCw ?_; walk_nrm; try (simp only [List.setIfInBounds_toArray, List.set_cons_zero, List.set_cons_succ]))
      (refine anyY_take (i := 3) rfl (by kernel_rfl) (by kernel_rfl) (by kernel_rfl) (.inl ⟨rfl, by exact nw_of (by rfl), fun Cw hCw => by go_simp; try rfl⟩) hCw ?_; walk_nrm; try (simp only [List.setIfInBounds_toArray, List.set_cons_zero, List.set_cons_succ]))
      (refine anyY_take (i := 4) rfl (by kernel_rfl) (by kernel_rfl) (by kernel_rfl) (.inl ⟨rfl, by exact nw_of (by rfl), fun Cw hCw => by go_simp; try rfl⟩) hCw ?_; walk_nrm; try (simp only [List.setIfInBounds_toArray, List.set_cons_zero, List.set_cons_succ]))
      (refine anyY_take (i := 5) rfl (by kernel_rfl) (by kernel_rfl) (by kernel_rfl) (.inl ⟨rfl, by exact nw_of (by rfl), fun Cw hCw => by go_simp; try rfl⟩) hCw ?_; walk_nrm; try (simp only [List.setIfInBounds_toArray, List.set_cons_zero, List.set_cons_succ]))
      (refine anyY_take (i := 6) rfl (by kernel_rfl) (by kernel_rfl) (by kernel_rfl) (.inl ⟨rfl, trivial, fun Cw hCw => rfl⟩) hCw ?_; walk_nrm; try (simp only [List.setIfInBounds_toArray, List.set_cons_zero, List.set_cons_succ]))
      refine anyY_done (by kernel_rfl) (hK _ _ _ _ ?_) _
      clear hK K
      repeat (first | (first | refine codeY_seq ?_ | refine codeY_block ?_ | refine codeY_ret ?_ | refine codeY_skip ?_ | refine codeY_exit ?_ | refine codeY_label ?_ | refine thenY_n ?_ | refine thenY_e ?_ | refine thenY_r ?_ | refine blockY_n ?_ | refine blockY_e ?_ | refine blockY_r ?_ | refine blockY_o rfl ?_ | refine codeY_condT rfl ?_ | refine codeY_condF rfl ?_) | (refine codeY_region_k (fun K hK => ?_); simp only [List.size_toArray, List.length_cons, List.length_nil, Nat.reduceAdd, Nat.zero_add, List.range, List.range.loop]) | (refine opsY_nil ?_; refine hK _ _ _ _ ?_; clear hK K) | (first | (first | (refine opsY_move rfl rfl ?_; walk_nrm) | (refine opsY_assign rfl rfl ?_; walk_nrm)) | (refine opsY_unwanted rfl rfl ?_; walk_nrm) | (refine opsY_nw rfl rfl (nw_of (by rfl)) (fun Ky hKy => ?_); go_simp; refine hKy _ _ ⟨rfl, fun Kx => ?_⟩; clear Kx hKy Ky)))
      (refine codeY_drawn_k (fun u : World => u.cell? ⟨u1.heap.size, 0, none⟩ = some (.int .i64 m) ∧ u.cell? ⟨u1.heap.size, 1, none⟩ = some (.int .i64 (st m)) ∧ u.cell? ⟨b + 2, 2 + m * 3, none⟩ = some (.pointer (some ⟨b + 3 + 2 * m, 0, none⟩))) (by kernel_rfl) (fun K hK => ?_); simp only [List.size_toArray, List.length_cons, List.length_nil, Nat.reduceAdd, Nat.zero_add, Array.replicate_succ, Array.replicate_zero, List.push_toArray, List.nil_append, List.cons_append])
      (refine anyY_take (i := 0) rfl (by kernel_rfl) (by kernel_rfl) (by kernel_rfl) (.inl ⟨rfl, trivial, fun Cw hCw => rfl⟩) hCw ?_; walk_nrm; try (simp only [List.setIfInBounds_toArray, List.set_cons_zero, List.set_cons_succ]))
      (refine anyY_take (i := 1) rfl (by kernel_rfl) (by kernel_rfl) (by kernel_rfl) (.inl ⟨rfl, by exact nw_of (by rfl), fun Cw hCw => by go_simp; try rfl⟩) hCw ?_; walk_nrm; try (simp only [List.setIfInBounds_toArray, List.set_cons_zero, List.set_cons_succ]))
      (refine anyY_take (i := 2) rfl (by kernel_rfl) (by kernel_rfl) (by kernel_rfl) (.inl ⟨rfl, by exact nw_of (by rfl), fun Cw hCw => by go_simp; try rfl⟩) hCw ?_; walk_nrm; try (simp only [List.setIfInBounds_toArray, List.set_cons_zero, List.set_cons_succ]))
      (refine anyY_take (i := 3) rfl (by kernel_rfl) (by kernel_rfl) (by kernel_rfl) (.inl ⟨rfl, by exact nw_of (by rfl), fun Cw hCw => by go_simp; try rfl⟩) hCw ?_; walk_nrm; try (simp only [List.setIfInBounds_toArray, List.set_cons_zero, List.set_cons_succ]))
      (refine anyY_take (i := 4) rfl (by kernel_rfl) (by kernel_rfl) (by kernel_rfl) (.inl ⟨rfl, trivial, fun Cw hCw => rfl⟩) hCw ?_; walk_nrm; try (simp only [List.setIfInBounds_toArray, List.set_cons_zero, List.set_cons_succ]))
      (refine anyY_take (i := 5) rfl (by kernel_rfl) (by kernel_rfl) (by kernel_rfl) (.inl ⟨rfl, by exact nw_of (by rfl), fun Cw hCw => by go_simp; try rfl⟩) hCw ?_; walk_nrm; try (simp only [List.setIfInBounds_toArray, List.set_cons_zero, List.set_cons_succ]))
      (refine anyY_take (i := 6) rfl (by kernel_rfl) (by kernel_rfl) (by kernel_rfl) (.inl ⟨rfl, by exact nw_of (by rfl), fun Cw hCw => by go_simp; try rfl⟩) hCw ?_; walk_nrm; try (simp only [List.setIfInBounds_toArray, List.set_cons_zero, List.set_cons_succ]))
      (refine anyY_take (i := 7) rfl (by kernel_rfl) (by kernel_rfl) (by kernel_rfl) (.inl ⟨rfl, by exact nw_of (by rfl), fun Cw hCw => by go_simp; try rfl⟩) hCw ?_; walk_nrm; try (simp only [List.setIfInBounds_toArray, List.set_cons_zero, List.set_cons_succ]))
      (refine anyY_take (i := 8) rfl (by kernel_rfl) (by kernel_rfl) (by kernel_rfl) (.inl ⟨rfl, by exact nw_of (by rfl), fun Cw hCw => by go_simp; try rfl⟩) hCw ?_; walk_nrm; try (simp only [List.setIfInBounds_toArray, List.set_cons_zero, List.set_cons_succ]))
      (refine anyY_take (i := 9) rfl (by kernel_rfl) (by kernel_rfl) (by kernel_rfl) (.inl ⟨rfl, by exact nw_of (by rfl), fun Cw hCw => by go_simp; try rfl⟩) hCw ?_; walk_nrm; try (simp only [List.setIfInBounds_toArray, List.set_cons_zero, List.set_cons_succ]))
      (refine anyY_take (i := 10) rfl (by kernel_rfl) (by kernel_rfl) (by kernel_rfl) (.inl ⟨rfl, by exact nw_of (by rfl), fun Cw hCw => by go_simp; try rfl⟩) hCw ?_; walk_nrm; try (simp only [List.setIfInBounds_toArray, List.set_cons_zero, List.set_cons_succ]))
      (refine anyY_one (i := 11) (by kernel_rfl) ?_)
      (refine opY_callTo (cashit_nil (st m + 3 - 2) hL.may (hC2.st m hm) (fun o => hs _)) rfl rfl rfl (by first | rfl | (simp [Act.eval]; done) | (simp [Act.eval]; rfl) | (simp [Act.eval]; exact ⟨rfl, rfl⟩)) ?_; walk_nrm; try (simp only [List.setIfInBounds_toArray, List.set_cons_zero, List.set_cons_succ]))
      have hne : ∀ o, (⟨b + 3 + 2 * m, 0, none⟩ : Addr) ≠ ⟨u1.heap.size, o, none⟩ := fun o e => by have := congrArg Addr.block e; simp at this; omega
      have hne2 : ∀ o, (⟨b + 3 + 2 * m, 0, none⟩ : Addr) ≠ ⟨b + 2, o, none⟩ := fun o e => by have := congrArg Addr.block e; simp at this; omega
      have hCw' : (fun u : World => u.cell? ⟨u1.heap.size, 0, none⟩ = some (.int .i64 m) ∧ u.cell? ⟨u1.heap.size, 1, none⟩ = some (.int .i64 (st m)) ∧ u.cell? ⟨b + 2, 2 + m * 3, none⟩ = some (.pointer (some ⟨b + 3 + 2 * m, 0, none⟩))) (u2.setCell ⟨b + 3 + 2 * m, 0, none⟩ (.int .i64 (st m + 3 - 2))) :=
        ⟨(World.cell?_setCell_other _ _ _ _ (hne 0)).trans x0', (World.cell?_setCell_other _ _ _ _ (hne 1)).trans x1', (World.cell?_setCell_other _ _ _ _ (hne2 _)).trans hst⟩
      refine ⟨hCw', ?_⟩
      (refine anyY_take (i := 12) rfl (by kernel_rfl) (by kernel_rfl) (by kernel_rfl) (.inl ⟨rfl, by exact nw_of (by rfl), fun Cw hCw => by go_simp; try rfl⟩) hCw' ?_; walk_nrm; try (simp only [List.setIfInBounds_toArray, List.set_cons_zero, List.set_cons_succ]))
      refine anyY_done (by kernel_rfl) (hK _ _ _ _ ?_) _
      clear hK K
      have hC3 := hC2.setSt hm (st m + 3 - 2)
      have hu : up st m (st m + 3 - 2) = up st m (st m + 1) := congrArg (up st m) (by omega)
      rw [hu] at hC3
      have hI3 := hR.stable hI2 ((Chg.refl (InClk b) u2).setCell (a := ⟨b + 3 + 2 * m, 0, none⟩) (.int .i64 (st m + 3 - 2)) (.inl ⟨by simp; omega, by simp; omega⟩))
      have hk3 : Chg (InClk b) u1 (u2.setCell ⟨b + 3 + 2 * m, 0, none⟩ (.int .i64 (st m + 3 - 2))) := (hk2.mono (fun _ _ x => x.elim)).setCell (a := ⟨b + 3 + 2 * m, 0, none⟩) (.int .i64 (st m + 3 - 2)) (.inl ⟨by simp; omega, by simp; omega⟩)
      have hsz3 : (u2.setCell ⟨b + 3 + 2 * m, 0, none⟩ (.int .i64 (st m + 3 - 2))).heap.size = u2.heap.size := size_setCell _ _ _
      obtain ⟨x0, x1, x2⟩ := hCw'
      clear hCw hC2 x0' x1' hst hu xz
      revert hC3 hI3 hsz3 x0 x1 x2 hk3
      generalize u2.setCell ⟨b + 3 + 2 * m, 0, none⟩ (.int .i64 (st m + 3 - 2)) = u3
      intro hC3 hI3 hk3 hsz3 x0 x1 x2
      obtain ⟨fn, cap, T, hfs, hT, hcall⟩ := hR.rings hI1 (by omega) m hF u3 hk3 hC3
      have hfm := hC3.cf m hm
      rw [hfs] at hfm
      repeat (first | (first | refine codeY_seq ?_ | refine codeY_block ?_ | refine codeY_ret ?_ | refine codeY_skip ?_ | refine codeY_exit ?_ | refine codeY_label ?_ | refine thenY_n ?_ | refine thenY_e ?_ | refine thenY_r ?_ | refine blockY_n ?_ | refine blockY_e ?_ | refine blockY_r ?_ | refine blockY_o rfl ?_ | refine codeY_condT rfl ?_ | refine codeY_condF rfl ?_) | (refine codeY_region_k (fun K hK => ?_); simp only [List.size_toArray, List.length_cons, List.length_nil, Nat.reduceAdd, Nat.zero_add, List.range, List.range.loop]) | (refine opsY_nil ?_; refine hK _ _ _ _ ?_; clear hK K) | (first | (first | (refine opsY_move rfl rfl ?_; walk_nrm) | (refine opsY_assign rfl rfl ?_; walk_nrm)) | (refine opsY_unwanted rfl rfl ?_; walk_nrm) | (refine opsY_nw rfl rfl (nw_of (by rfl)) (fun Ky hKy => ?_); go_simp; refine hKy _ _ ⟨rfl, fun Kx => ?_⟩; clear Kx hKy Ky)))
      (refine opsY_callvR (hcall) rfl rfl rfl rfl (by first | rfl | (simp [Act.eval]; done) | (simp [Act.eval]; rfl) | (simp [Act.eval]; exact ⟨rfl, rfl⟩)) ?_)
      rintro s2 v u4 ⟨rfl, hch, st', due', fs', hC4, hsm, hnext⟩
      have hnx : ¬ T u1.heap.size := fun hx => Nat.lt_irrefl _ (hT u1.heap.size hx)
      have x0 := hch.cell_is x0 hnx
      have x1 := hch.cell_is x1 hnx
      have hsz4 := hch.size
      clear hch hC3 hI3 x2 hfm hcall hI2 hk3 hk2
      walk_nrm
      repeat (first | (first | refine codeY_seq ?_ | refine codeY_block ?_ | refine codeY_ret ?_ | refine codeY_skip ?_ | refine codeY_exit ?_ | refine codeY_label ?_ | refine thenY_n ?_ | refine thenY_e ?_ | refine thenY_r ?_ | refine blockY_n ?_ | refine blockY_e ?_ | refine blockY_r ?_ | refine blockY_o rfl ?_ | refine codeY_condT rfl ?_ | refine codeY_condF rfl ?_) | (refine codeY_region_k (fun K hK => ?_); simp only [List.size_toArray, List.length_cons, List.length_nil, Nat.reduceAdd, Nat.zero_add, List.range, List.range.loop]) | (refine opsY_nil ?_; refine hK _ _ _ _ ?_; clear hK K) | (first | (first | (refine opsY_move rfl rfl ?_; walk_nrm) | (refine opsY_assign rfl rfl ?_; walk_nrm)) | (refine opsY_unwanted rfl rfl ?_; walk_nrm) | (refine opsY_nw rfl rfl (nw_of (by rfl)) (fun Ky hKy => ?_); go_simp; refine hKy _ _ ⟨rfl, fun Kx => ?_⟩; clear Kx hKy Ky)))
      have hCw : (fun u : World => u.cell? ⟨u1.heap.size, 0, none⟩ = some (.int .i64 m) ∧ u.cell? ⟨u1.heap.size, 1, none⟩ = some (.int .i64 (st m)) ∧ u.cell? ⟨b + 2, 2 + m * 3, none⟩ = some (.pointer (some ⟨b + 3 + 2 * m, 0, none⟩))) u4 := ⟨x0, x1, hC4.cst m hm⟩
      (refine codeY_drawn_k (fun u : World => u.cell? ⟨u1.heap.size, 0, none⟩ = some (.int .i64 m) ∧ u.cell? ⟨u1.heap.size, 1, none⟩ = some (.int .i64 (st m)) ∧ u.cell? ⟨b + 2, 2 + m * 3, none⟩ = some (.pointer (some ⟨b + 3 + 2 * m, 0, none⟩))) (by kernel_rfl) (fun K hK => ?_); simp only [List.size_toArray, List.length_cons, List.length_nil, Nat.reduceAdd, Nat.zero_add, Array.replicate_succ, Array.replicate_zero, List.push_toArray, List.nil_append, List.cons_append])
      (refine anyY_take (i := 0) rfl (by kernel_rfl) (by kernel_rfl) (by kernel_rfl) (.inl ⟨rfl, trivial, fun Cw hCw => rfl⟩) hCw ?_; walk_nrm; try (simp only [List.setIfInBounds_toArray, List.set_cons_zero, List.set_cons_succ]))
      (refine anyY_take (i := 1) rfl (by kernel_rfl) (by kernel_rfl) (by kernel_rfl) (.inl ⟨rfl, by exact nw_of (by rfl), fun Cw hCw => by go_simp; try rfl⟩) hCw ?_; walk_nrm; try (simp only [List.setIfInBounds_toArray, List.set_cons_zero, List.set_cons_succ]))
      (refine anyY_take (i := 2) rfl (by kernel_rfl) (by kernel_rfl) (by kernel_rfl) (.inl ⟨rfl, by exact nw_of (by rfl), fun Cw hCw => by go_simp; try rfl⟩) hCw ?_; walk_nrm; try (simp only [List.setIfInBounds_toArray, List.set_cons_zero, List.set_cons_succ]))
      (refine anyY_take (i := 3) rfl (by kernel_rfl) (by kernel_rfl) (by kernel_rfl) (.inl ⟨rfl, by exact nw_of (by rfl), fun Cw hCw => by go_simp; try rfl⟩) hCw ?_; walk_nrm; try (simp only [List.setIfInBounds_toArray, List.set_cons_zero, List.set_cons_succ]))
      (refine anyY_take (i := 4) rfl (by kernel_rfl) (by kernel_rfl) (by kernel_rfl) (.inl ⟨rfl, trivial, fun Cw hCw => rfl⟩) hCw ?_; walk_nrm; try (simp only [List.setIfInBounds_toArray, List.set_cons_zero, List.set_cons_succ]))
      (refine anyY_take (i := 5) rfl (by kernel_rfl) (by kernel_rfl) (by kernel_rfl) (.inl ⟨rfl, by exact nw_of (by rfl), fun Cw hCw => by go_simp; try rfl⟩) hCw ?_; walk_nrm; try (simp only [List.setIfInBounds_toArray, List.set_cons_zero, List.set_cons_succ]))
      (refine anyY_take (i := 6) rfl (by kernel_rfl) (by kernel_rfl) (by kernel_rfl) (.inl ⟨rfl, by exact nw_of (by rfl), fun Cw hCw => by go_simp; try rfl⟩) hCw ?_; walk_nrm; try (simp only [List.setIfInBounds_toArray, List.set_cons_zero, List.set_cons_succ]))
      (refine anyY_take (i := 7) rfl (by kernel_rfl) (by kernel_rfl) (by kernel_rfl) (.inl ⟨rfl, by exact nw_of (by rfl), fun Cw hCw => by go_simp; try rfl⟩) hCw ?_; walk_nrm; try (simp only [List.setIfInBounds_toArray, List.set_cons_zero, List.set_cons_succ]))
      (refine anyY_take (i := 8) rfl (by kernel_rfl) (by kernel_rfl) (by kernel_rfl) (.inl ⟨rfl, by exact nw_of (by rfl), fun Cw hCw => by go_simp; try rfl⟩) hCw ?_; walk_nrm; try (simp only [List.setIfInBounds_toArray, List.set_cons_zero, List.set_cons_succ]))
      (refine anyY_one (i := 9) (by kernel_rfl) ?_)
      (refine opY_callTo (store_nil (st m + 4 - 2) hL.may (hC4.st m hm) (fun o => hs _)) rfl rfl rfl (by first | rfl | (simp [Act.eval]; done) | (simp [Act.eval]; rfl) | (simp [Act.eval]; exact ⟨rfl, rfl⟩)) ?_; walk_nrm; try (simp only [List.setIfInBounds_toArray, List.set_cons_zero, List.set_cons_succ]))
      have hCw' : (fun u : World => u.cell? ⟨u1.heap.size, 0, none⟩ = some (.int .i64 m) ∧ u.cell? ⟨u1.heap.size, 1, none⟩ = some (.int .i64 (st m)) ∧ u.cell? ⟨b + 2, 2 + m * 3, none⟩ = some (.pointer (some ⟨b + 3 + 2 * m, 0, none⟩))) (u4.setCell ⟨b + 3 + 2 * m, 0, none⟩ (.int .i64 (st m + 4 - 2))) :=
        ⟨(World.cell?_setCell_other _ _ _ _ (hne 0)).trans x0, (World.cell?_setCell_other _ _ _ _ (hne 1)).trans x1, (World.cell?_setCell_other _ _ _ _ (hne2 _)).trans (hC4.cst m hm)⟩
      refine ⟨hCw', anyY_done (by kernel_rfl) (hK _ _ _ _ ?_) _⟩
      clear hK K
      have hC5 := hC4.setSt hm (st m + 4 - 2)
      have hu : up st' m (st m + 4 - 2) = up st' m (st m + 2) := congrArg (up st' m) (by omega)
      rw [hu] at hC5
      have hI5 := hnext _ ((Chg.refl (InClk b) u4).setCell (a := ⟨b + 3 + 2 * m, 0, none⟩) (.int .i64 (st m + 4 - 2)) (.inl ⟨by simp; omega, by simp; omega⟩))
      repeat (first | (first | refine codeY_seq ?_ | refine codeY_block ?_ | refine codeY_ret ?_ | refine codeY_skip ?_ | refine codeY_exit ?_ | refine codeY_label ?_ | refine thenY_n ?_ | refine thenY_e ?_ | refine thenY_r ?_ | refine blockY_n ?_ | refine blockY_e ?_ | refine blockY_r ?_ | refine blockY_o rfl ?_ | refine codeY_condT rfl ?_ | refine codeY_condF rfl ?_) | (refine codeY_region_k (fun K hK => ?_); simp only [List.size_toArray, List.length_cons, List.length_nil, Nat.reduceAdd, Nat.zero_add, List.range, List.range.loop]) | (refine opsY_nil ?_; refine hK _ _ _ _ ?_; clear hK K) | (first | (first | (refine opsY_move rfl rfl ?_; walk_nrm) | (refine opsY_assign rfl rfl ?_; walk_nrm)) | (refine opsY_unwanted rfl rfl ?_; walk_nrm) | (refine opsY_nw rfl rfl (nw_of (by rfl)) (fun Ky hKy => ?_); go_simp; refine hKy _ _ ⟨rfl, fun Kx => ?_⟩; clear Kx hKy Ky)))
      refine ⟨⟨rfl, r + 1, _, _, _, by omega, hC5, hI5, junk_intro _ rfl⟩, ?_⟩
      show (64 - ((r : Int) + 1)).toNat < (64 - (r : Int)).toNat
      omega
end Go.Proofs.Ythnfheohfnhcpaa.Y
