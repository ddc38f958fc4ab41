/- PrioAges: its walk. -/
import Derived.Test.YthnfheohfnhcpaaPrq
set_option linter.unusedSimpArgs false
set_option linter.unusedVariables false
set_option maxRecDepth 20000
set_option maxHeartbeats 4000000
namespace Go.Proofs.Ythnfheohfnhcpaa.Y
open Go Go.Conc Go.Proofs
variable {S : Type} {E : Eng Try.prog S}

theorem andMod2 : AndMod 2 := fun q hq => by
  have h := bits_mask .i64 62 (by decide) (fun n h0 h1 => wrap64 (by omega) (by omega)) 1 (by decide) (q : Int) (by omega) (by omega)
  rw [show ((2 : Nat) : Int) - 1 = (2 : Int) ^ 1 - 1 from rfl, h]; omega
theorem andMod4 : AndMod 4 := fun q hq => by
  have h := bits_mask .i64 62 (by decide) (fun n h0 h1 => wrap64 (by omega) (by omega)) 2 (by decide) (q : Int) (by omega) (by omega)
  rw [show ((4 : Nat) : Int) - 1 = (2 : Int) ^ 2 - 1 from rfl, h]; omega
theorem pq_init {A : PA} {u : World} (hw : PW u A (ival A.room)) : Pq A (ival A.room) 0 (fun _ => 0) (fun _ => 0) (fun _ _ => 0) (fun _ _ => 0) := by
  have hr := hw.r0
  have iv0 : ∀ i x, x < 2 → ival A.room (A.cin i + x) = 0 := fun i x hx => by
    have e : (A.cin i + x - 1) % (2 + 3 * A.room) = x := by
      have : A.cin i + x - 1 = x + (2 + 3 * A.room) * i := by unfold PA.cin; rw [Nat.mul_comm]; omega
      rw [this, Nat.add_mul_mod_self_left, Nat.mod_eq_of_lt (by omega)]
    unfold ival
    rw [if_neg (by unfold PA.cin; omega), e, if_pos hx]
  refine ⟨rfl, fun i hi => ⟨iv0 i 0 (by omega), iv0 i 1 (by omega), Nat.le_refl _, by omega, fun q h1 h2 => by omega, fun q h1 h2 => ?_⟩, fun _ _ => by decide, fun _ => Nat.le_refl _, by omega⟩
  rw [Nat.mod_eq_of_lt (by omega)]
  exact ival_at (room := A.room) (i := i) (j := q) (x := 0) (by omega) (by omega)
theorem seq_chg {A : PA} {w u u' : World} (hC : Chg (fun _ => False) w u) (hlo : ∀ k, k < A.N → w.heap.size ≤ A.cb k) (c : Chg (InN A.cb A.N) u u') : Chg (fun _ => False) w u' :=
  hC.trans c (fun b hb ⟨k, hk, e⟩ => by have := hlo k hk; omega)
theorem works_walk {σ : S} {w : World} (hL : Lone E σ) : CallR E 33 #[] σ w (fun s v u => s = σ ∧ v = .bool true ∧ Chg (fun _ => False) w u) := by
  have hb2 : Go.bits .and .i64 ((2 : Nat) : Int) (((2 : Nat) : Int) - 1) = 0 := andMod2 2 (by omega)
  refine callR_of Try.func33 (by kernel_rfl) rfl ?_; simp only [Try.ntmps33, List.size_toArray, List.length_cons, List.length_nil, Nat.reduceAdd, Nat.reduceSub, Array.replicate_succ, Array.replicate_zero, List.push_toArray, List.append_toArray, List.nil_append, List.cons_append]
  repeat (first | (first | refine codeY_seq ?_ | refine codeY_block ?_ | refine codeY_ret ?_ | refine codeY_skip ?_ | refine codeY_exit ?_ | refine codeY_label ?_ | refine thenY_n ?_ | refine thenY_e ?_ | refine thenY_r ?_ | refine blockY_n ?_ | refine blockY_e ?_ | refine blockY_r ?_ | refine blockY_o rfl ?_ | refine codeY_condT rfl ?_ | refine codeY_condF rfl ?_) | (refine codeY_region_k (fun K hK => ?_); simp only [List.size_toArray, List.length_cons, List.length_nil, Nat.reduceAdd, Nat.zero_add, List.range, List.range.loop]) | (refine opsY_nil ?_; refine hK _ _ _ _ ?_; clear hK K) | (first | (first | (refine opsY_move rfl rfl ?_; walk_nrm) | (refine opsY_assign rfl rfl ?_; walk_nrm)) | (refine opsY_unwanted rfl rfl ?_; walk_nrm) | (refine opsY_nw rfl rfl (nw_of (by rfl)) (fun Ky hKy => ?_); go_simp; refine hKy _ _ ⟨rfl, fun Kx => ?_⟩; clear Kx hKy Ky)))
  (refine opsY_callR (prnew_good hL (L := 2) (room := 2) (by omega) (by omega) (by omega) (by omega) hb2) rfl rfl rfl (by first | rfl | (simp [Act.eval]; done) | (simp [Act.eval]; rfl) | (simp [Act.eval]; exact ⟨rfl, rfl⟩)) ?_)
  rintro s v u ⟨rfl, hC, A, hA1, hA2, rfl, hw, hp, hlo⟩
  have hM : AndMod A.room := by rw [hA2]; exact andMod2
  have hw : PW u A (ival A.room) := by rw [hA2]; exact hw
  have hP := pq_init hw
  walk_nrm
  repeat (first | (first | refine codeY_seq ?_ | refine codeY_block ?_ | refine codeY_ret ?_ | refine codeY_skip ?_ | refine codeY_exit ?_ | refine codeY_label ?_ | refine thenY_n ?_ | refine thenY_e ?_ | refine thenY_r ?_ | refine blockY_n ?_ | refine blockY_e ?_ | refine blockY_r ?_ | refine blockY_o rfl ?_ | refine codeY_condT rfl ?_ | refine codeY_condF rfl ?_) | (refine codeY_region_k (fun K hK => ?_); simp only [List.size_toArray, List.length_cons, List.length_nil, Nat.reduceAdd, Nat.zero_add, List.range, List.range.loop]) | (refine opsY_nil ?_; refine hK _ _ _ _ ?_; clear hK K) | (first | (first | (refine opsY_move rfl rfl ?_; walk_nrm) | (refine opsY_assign rfl rfl ?_; walk_nrm)) | (refine opsY_unwanted rfl rfl ?_; walk_nrm) | (refine opsY_nw rfl rfl (nw_of (by rfl)) (fun Ky hKy => ?_); go_simp; refine hKy _ _ ⟨rfl, fun Kx => ?_⟩; clear Kx hKy Ky)))
  (refine opsY_callR (seq_put hL (i := 0) (x := 7) hM hP hw (by omega) (by show 0 < 0 + A.room; omega) (by omega)) rfl rfl rfl (by first | rfl | (simp [Act.eval]; done) | (simp [Act.eval]; rfl) | (simp [Act.eval]; exact ⟨rfl, rfl⟩)) ?_)
  rintro s v u1 ⟨rfl, rfl, hC1, val1, hw1, hP1⟩
  have hC := seq_chg hC hlo hC1
  walk_nrm
  repeat (first | (first | refine codeY_seq ?_ | refine codeY_block ?_ | refine codeY_ret ?_ | refine codeY_skip ?_ | refine codeY_exit ?_ | refine codeY_label ?_ | refine thenY_n ?_ | refine thenY_e ?_ | refine thenY_r ?_ | refine blockY_n ?_ | refine blockY_e ?_ | refine blockY_r ?_ | refine blockY_o rfl ?_ | refine codeY_condT rfl ?_ | refine codeY_condF rfl ?_) | (refine codeY_region_k (fun K hK => ?_); simp only [List.size_toArray, List.length_cons, List.length_nil, Nat.reduceAdd, Nat.zero_add, List.range, List.range.loop]) | (refine opsY_nil ?_; refine hK _ _ _ _ ?_; clear hK K) | (first | (first | (refine opsY_move rfl rfl ?_; walk_nrm) | (refine opsY_assign rfl rfl ?_; walk_nrm)) | (refine opsY_unwanted rfl rfl ?_; walk_nrm) | (refine opsY_nw rfl rfl (nw_of (by rfl)) (fun Ky hKy => ?_); go_simp; refine hKy _ _ ⟨rfl, fun Kx => ?_⟩; clear Kx hKy Ky)))
  (refine opsY_callR (seq_put hL (i := 1) (x := 8) hM hP1 hw1 (by omega) (by show 0 < 0 + A.room; omega) (by omega)) rfl rfl rfl (by first | rfl | (simp [Act.eval]; done) | (simp [Act.eval]; rfl) | (simp [Act.eval]; exact ⟨rfl, rfl⟩)) ?_)
  rintro s v u2 ⟨rfl, rfl, hC2, val2, hw2, hP2⟩
  have hC := seq_chg hC hlo hC2
  walk_nrm
  repeat (first | (first | refine codeY_seq ?_ | refine codeY_block ?_ | refine codeY_ret ?_ | refine codeY_skip ?_ | refine codeY_exit ?_ | refine codeY_label ?_ | refine thenY_n ?_ | refine thenY_e ?_ | refine thenY_r ?_ | refine blockY_n ?_ | refine blockY_e ?_ | refine blockY_r ?_ | refine blockY_o rfl ?_ | refine codeY_condT rfl ?_ | refine codeY_condF rfl ?_) | (refine codeY_region_k (fun K hK => ?_); simp only [List.size_toArray, List.length_cons, List.length_nil, Nat.reduceAdd, Nat.zero_add, List.range, List.range.loop]) | (refine opsY_nil ?_; refine hK _ _ _ _ ?_; clear hK K) | (first | (first | (refine opsY_move rfl rfl ?_; walk_nrm) | (refine opsY_assign rfl rfl ?_; walk_nrm)) | (refine opsY_unwanted rfl rfl ?_; walk_nrm) | (refine opsY_nw rfl rfl (nw_of (by rfl)) (fun Ky hKy => ?_); go_simp; refine hKy _ _ ⟨rfl, fun Kx => ?_⟩; clear Kx hKy Ky)))
  (refine opsY_callTo (put_arg (on := 2) (v := 8) hw2.m (.inr (by omega))) rfl rfl rfl (by first | rfl | (simp [Act.eval]; done) | (simp [Act.eval]; rfl) | (simp [Act.eval]; exact ⟨rfl, rfl⟩)) ?_; walk_nrm)
  repeat (first | (first | refine codeY_seq ?_ | refine codeY_block ?_ | refine codeY_ret ?_ | refine codeY_skip ?_ | refine codeY_exit ?_ | refine codeY_label ?_ | refine thenY_n ?_ | refine thenY_e ?_ | refine thenY_r ?_ | refine blockY_n ?_ | refine blockY_e ?_ | refine blockY_r ?_ | refine blockY_o rfl ?_ | refine codeY_condT rfl ?_ | refine codeY_condF rfl ?_) | (refine codeY_region_k (fun K hK => ?_); simp only [List.size_toArray, List.length_cons, List.length_nil, Nat.reduceAdd, Nat.zero_add, List.range, List.range.loop]) | (refine opsY_nil ?_; refine hK _ _ _ _ ?_; clear hK K) | (first | (first | (refine opsY_move rfl rfl ?_; walk_nrm) | (refine opsY_assign rfl rfl ?_; walk_nrm)) | (refine opsY_unwanted rfl rfl ?_; walk_nrm) | (refine opsY_nw rfl rfl (nw_of (by rfl)) (fun Ky hKy => ?_); go_simp; refine hKy _ _ ⟨rfl, fun Kx => ?_⟩; clear Kx hKy Ky)))
  (refine opsY_callR (seq_take hL hM hP2 hw2) rfl rfl rfl (by first | rfl | (simp [Act.eval]; done) | (simp [Act.eval]; rfl) | (simp [Act.eval]; exact ⟨rfl, rfl⟩)) ?_)
  rintro s v u3 ⟨rfl, hC3, hx⟩
  rw [hA1] at hx
  rcases hx with ⟨hb, _⟩ | ⟨i, hb, hi, hlt, hv, val3, hw3, hP3⟩
  · exact absurd hb (by decide +kernel)
  have hi' : i = 1 := by
    have h : (i : Int) = 1 := hb.symm.trans (by decide +kernel)
    omega
  subst hi'
  have hv : v = .tuple #[.int .i64 8, .int .i64 1, .bool true] := hv
  subst hv
  clear hb
  have hC := seq_chg hC hlo hC3
  walk_nrm
  repeat (first | (first | refine codeY_seq ?_ | refine codeY_block ?_ | refine codeY_ret ?_ | refine codeY_skip ?_ | refine codeY_exit ?_ | refine codeY_label ?_ | refine thenY_n ?_ | refine thenY_e ?_ | refine thenY_r ?_ | refine blockY_n ?_ | refine blockY_e ?_ | refine blockY_r ?_ | refine blockY_o rfl ?_ | refine codeY_condT rfl ?_ | refine codeY_condF rfl ?_) | (refine codeY_region_k (fun K hK => ?_); simp only [List.size_toArray, List.length_cons, List.length_nil, Nat.reduceAdd, Nat.zero_add, List.range, List.range.loop]) | (refine opsY_nil ?_; refine hK _ _ _ _ ?_; clear hK K) | (first | (first | (refine opsY_move rfl rfl ?_; walk_nrm) | (refine opsY_assign rfl rfl ?_; walk_nrm)) | (refine opsY_unwanted rfl rfl ?_; walk_nrm) | (refine opsY_nw rfl rfl (nw_of (by rfl)) (fun Ky hKy => ?_); go_simp; refine hKy _ _ ⟨rfl, fun Kx => ?_⟩; clear Kx hKy Ky)))
  (refine opsY_callR (seq_take hL hM hP3 hw3) rfl rfl rfl (by first | rfl | (simp [Act.eval]; done) | (simp [Act.eval]; rfl) | (simp [Act.eval]; exact ⟨rfl, rfl⟩)) ?_)
  rintro s v u4 ⟨rfl, hC4, hx⟩
  rw [hA1] at hx
  rcases hx with ⟨hb, _⟩ | ⟨i, hb, hi, hlt, hv, val4, hw4, hP4⟩
  · exact absurd hb (by decide +kernel)
  have hi' : i = 0 := by
    have h : (i : Int) = 0 := hb.symm.trans (by decide +kernel)
    omega
  subst hi'
  have hv : v = .tuple #[.int .i64 7, .int .i64 0, .bool true] := hv
  subst hv
  clear hb
  have hC := seq_chg hC hlo hC4
  walk_nrm
  repeat (first | (first | refine codeY_seq ?_ | refine codeY_block ?_ | refine codeY_ret ?_ | refine codeY_skip ?_ | refine codeY_exit ?_ | refine codeY_label ?_ | refine thenY_n ?_ | refine thenY_e ?_ | refine thenY_r ?_ | refine blockY_n ?_ | refine blockY_e ?_ | refine blockY_r ?_ | refine blockY_o rfl ?_ | refine codeY_condT rfl ?_ | refine codeY_condF rfl ?_) | (refine codeY_region_k (fun K hK => ?_); simp only [List.size_toArray, List.length_cons, List.length_nil, Nat.reduceAdd, Nat.zero_add, List.range, List.range.loop]) | (refine opsY_nil ?_; refine hK _ _ _ _ ?_; clear hK K) | (first | (first | (refine opsY_move rfl rfl ?_; walk_nrm) | (refine opsY_assign rfl rfl ?_; walk_nrm)) | (refine opsY_unwanted rfl rfl ?_; walk_nrm) | (refine opsY_nw rfl rfl (nw_of (by rfl)) (fun Ky hKy => ?_); go_simp; refine hKy _ _ ⟨rfl, fun Kx => ?_⟩; clear Kx hKy Ky)))
  (refine opsY_callR (seq_take hL hM hP4 hw4) rfl rfl rfl (by first | rfl | (simp [Act.eval]; done) | (simp [Act.eval]; rfl) | (simp [Act.eval]; exact ⟨rfl, rfl⟩)) ?_)
  rintro s v u5 ⟨rfl, hC5, hx⟩
  rw [hA1] at hx
  rcases hx with ⟨hb, hv, hw5⟩ | ⟨i, hb, _⟩
  · subst hv
    have hC := seq_chg hC hlo hC5
    walk_nrm
    repeat (first | (first | refine codeY_seq ?_ | refine codeY_block ?_ | refine codeY_ret ?_ | refine codeY_skip ?_ | refine codeY_exit ?_ | refine codeY_label ?_ | refine thenY_n ?_ | refine thenY_e ?_ | refine thenY_r ?_ | refine blockY_n ?_ | refine blockY_e ?_ | refine blockY_r ?_ | refine blockY_o rfl ?_ | refine codeY_condT rfl ?_ | refine codeY_condF rfl ?_) | (refine codeY_region_k (fun K hK => ?_); simp only [List.size_toArray, List.length_cons, List.length_nil, Nat.reduceAdd, Nat.zero_add, List.range, List.range.loop]) | (refine opsY_nil ?_; refine hK _ _ _ _ ?_; clear hK K) | (first | (first | (refine opsY_move rfl rfl ?_; walk_nrm) | (refine opsY_assign rfl rfl ?_; walk_nrm)) | (refine opsY_unwanted rfl rfl ?_; walk_nrm) | (refine opsY_nw rfl rfl (nw_of (by rfl)) (fun Ky hKy => ?_); go_simp; refine hKy _ _ ⟨rfl, fun Kx => ?_⟩; clear Kx hKy Ky)))
    (first | refine bodyY_ret rfl (results_1 Try.results33) ?_ | refine bodyY_ret rfl (results_0 Try.results33) ?_ | refine bodyY_ret rfl (results_2 Try.results33) ?_ | refine bodyY_ret rfl (results_3 Try.results33) ?_ | refine bodyY_end rfl (results_1 Try.results33) ?_ | refine bodyY_end rfl (results_0 Try.results33) ?_ | refine bodyY_end rfl (results_2 Try.results33) ?_ | refine bodyY_end rfl (results_3 Try.results33) ?_)
    exact ⟨rfl, rfl, hC⟩
  · have h : (i : Int) = -1 := hb.symm.trans (by decide +kernel)
    omega
theorem place_walk {σ : S} {w : World} {d : Int} (h1 : -9223372036854775808 ≤ d) (h2 : d ≤ 9223372036854775807) : CallTo E 34 #[.int .i64 d, .int .i64 8] σ w σ (.int .i64 (d % 8)) w := by
  have ht : -8 < d.tmod 8 ∧ d.tmod 8 < 8 ∧ (d.tmod 8 < 0 → d.tmod 8 + 8 = d % 8) ∧ (¬ d.tmod 8 < 0 → d.tmod 8 = d % 8) := by
    by_cases h0 : 0 ≤ d
    · rw [Int.tmod_eq_emod_of_nonneg h0]; omega
    · obtain ⟨m, rfl⟩ : ∃ m : Int, d = -m := ⟨-d, by omega⟩
      rw [Int.neg_tmod, Int.tmod_eq_emod_of_nonneg (by omega)]; omega
  have w1 : IntKind.i64.wrap (d.tmod 8) = d.tmod 8 := wrap64 (by omega) (by omega)
  by_cases h : d.tmod 8 < 0
  · have e : d.tmod 8 + 8 = d % 8 := ht.2.2.1 h
    have w2 : IntKind.i64.wrap (d % 8) = d % 8 := wrap64 (by omega) (by omega)
    clear ht
    refine callTo_of Try.func34 (by kernel_rfl) rfl ?_; simp only [Try.ntmps34, List.size_toArray, List.length_cons, List.length_nil, Nat.reduceAdd, Nat.reduceSub, Array.replicate_succ, Array.replicate_zero, List.push_toArray, List.append_toArray, List.nil_append, List.cons_append]
    repeat (first | (first | refine codeY_seq ?_ | refine codeY_block ?_ | refine codeY_ret ?_ | refine codeY_skip ?_ | refine codeY_exit ?_ | refine codeY_label ?_ | refine thenY_n ?_ | refine thenY_e ?_ | refine thenY_r ?_ | refine blockY_n ?_ | refine blockY_e ?_ | refine blockY_r ?_ | refine blockY_o rfl ?_ | refine codeY_condT rfl ?_ | refine codeY_condF rfl ?_) | (refine codeY_region_k (fun K hK => ?_); simp only [List.size_toArray, List.length_cons, List.length_nil, Nat.reduceAdd, Nat.zero_add, List.range, List.range.loop]) | (refine opsY_nil ?_; refine hK _ _ _ _ ?_; clear hK K) | (first | (first | (refine opsY_move rfl rfl ?_; walk_nrm) | (refine opsY_assign rfl rfl ?_; walk_nrm)) | (refine opsY_unwanted rfl rfl ?_; walk_nrm) | (refine opsY_nw rfl rfl (nw_of (by rfl)) (fun Ky hKy => ?_); go_simp; refine hKy _ _ ⟨rfl, fun Kx => ?_⟩; clear Kx hKy Ky)))
    ((first | refine bodyY_ret rfl (results_1 Try.results34) ?_ | refine bodyY_ret rfl (results_0 Try.results34) ?_ | refine bodyY_ret rfl (results_2 Try.results34) ?_ | refine bodyY_ret rfl (results_3 Try.results34) ?_ | refine bodyY_end rfl (results_1 Try.results34) ?_ | refine bodyY_end rfl (results_0 Try.results34) ?_ | refine bodyY_end rfl (results_2 Try.results34) ?_ | refine bodyY_end rfl (results_3 Try.results34) ?_); exact ⟨rfl, rfl, rfl⟩)
  · have e : d.tmod 8 = d % 8 := ht.2.2.2 h
    have h' : ¬ d % 8 < 0 := by omega
    have w2 : IntKind.i64.wrap (d % 8) = d % 8 := wrap64 (by omega) (by omega)
    clear ht w1 h
    refine callTo_of Try.func34 (by kernel_rfl) rfl ?_; simp only [Try.ntmps34, List.size_toArray, List.length_cons, List.length_nil, Nat.reduceAdd, Nat.reduceSub, Array.replicate_succ, Array.replicate_zero, List.push_toArray, List.append_toArray, List.nil_append, List.cons_append]
    repeat (first | (first | refine codeY_seq ?_ | refine codeY_block ?_ | refine codeY_ret ?_ | refine codeY_skip ?_ | refine codeY_exit ?_ | refine codeY_label ?_ | refine thenY_n ?_ | refine thenY_e ?_ | refine thenY_r ?_ | refine blockY_n ?_ | refine blockY_e ?_ | refine blockY_r ?_ | refine blockY_o rfl ?_ | refine codeY_condT rfl ?_ | refine codeY_condF rfl ?_) | (refine codeY_region_k (fun K hK => ?_); simp only [List.size_toArray, List.length_cons, List.length_nil, Nat.reduceAdd, Nat.zero_add, List.range, List.range.loop]) | (refine opsY_nil ?_; refine hK _ _ _ _ ?_; clear hK K) | (first | (first | (refine opsY_move rfl rfl ?_; walk_nrm) | (refine opsY_assign rfl rfl ?_; walk_nrm)) | (refine opsY_unwanted rfl rfl ?_; walk_nrm) | (refine opsY_nw rfl rfl (nw_of (by rfl)) (fun Ky hKy => ?_); go_simp; refine hKy _ _ ⟨rfl, fun Kx => ?_⟩; clear Kx hKy Ky)))
    ((first | refine bodyY_ret rfl (results_1 Try.results34) ?_ | refine bodyY_ret rfl (results_0 Try.results34) ?_ | refine bodyY_ret rfl (results_2 Try.results34) ?_ | refine bodyY_ret rfl (results_3 Try.results34) ?_ | refine bodyY_end rfl (results_1 Try.results34) ?_ | refine bodyY_end rfl (results_0 Try.results34) ?_ | refine bodyY_end rfl (results_2 Try.results34) ?_ | refine bodyY_end rfl (results_3 Try.results34) ?_); exact ⟨rfl, rfl, rfl⟩)
theorem bst_skip {hd : Heads} {a : Nat} : ∀ b, a ≤ b → (∀ j, a ≤ j → j < b → hd j = none) → bst hd b = bst hd a
  | 0, h, _ => by rw [show a = 0 by omega]
  | b + 1, h, hn => by
    by_cases e : a = b + 1
    · rw [e]
    · rw [bst, hn b (by omega) (by omega)]
      exact bst_skip b (by omega) (fun j h1 h2 => hn j h1 (by omega))
theorem bst_one {hd : Heads} {p t : Int} (h0 : hd 0 = some (p, t)) : bst hd 1 = 0 := by
  rw [bst, h0]; simp [bst]
theorem bst_two {hd : Heads} {l : Nat} {p0 t0 p t : Int} (h0 : hd 0 = some (p0, t0)) (hl0 : 0 < l) (hl8 : l < 8) (hl : hd l = some (p, t)) (hn : ∀ j, 0 < j → j ≠ l → hd j = none) : bst hd 8 = if 64 * (l : Int) > t - t0 then (l : Int) else 0 := by
  have hb : bst hd l = 0 := (bst_skip l (by omega) (fun j h1 h2 => hn j (by omega) (by omega))).trans (bst_one h0)
  rw [bst_skip (a := l + 1) 8 (by omega) (fun j h1 h2 => hn j (by omega) (by omega)), bst, hl]
  simp only [hb]
  rw [show (0 : Int).toNat = 0 from rfl, h0]
  show (if (0 : Int) < 0 ∨ 64 * ((l : Int) - 0) > t - t0 then (l : Int) else 0) = _
  by_cases c : 64 * (l : Int) > t - t0
  · rw [if_pos c, if_pos (.inr (by omega))]
  · rw [if_neg c, if_neg (by omega)]
/-- So it stands ahead of a round. -/
structure Aged (A : PA) (l i : Nat) (o n : Nat → Nat) (tk th : Nat → Nat → Int) : Prop where
  o0 : o 0 = 0
  n0 : n 0 = 1
  k0 : tk 0 0 = 1
  h0 : th 0 0 = -1
  on : ∀ j, 0 < j → j ≤ l → o j = n j
theorem aged_zero {A : PA} {i : Nat} {o n : Nat → Nat} {tk th : Nat → Nat → Int} (hA : A.L = 1) (h : Aged A 0 i o n tk th) (x : Int) :
    bst (hdOf A.L o (upd1 n 0 (n 0 + 1)) (upd1 tk 0 (upd1 (tk 0) (n 0) ((i : Int) + 1)))) 8 = 0 ∧ upd1 th 0 (upd1 (th 0) (n 0) x) 0 (o 0) = -1 := by
  constructor
  · refine (bst_skip (a := 1) 8 (by omega) (fun j h1 h2 => ?_)).trans (bst_one (p := 0) (t := 1) ?_)
    · unfold hdOf; rw [if_neg (fun x => by omega)]
    · unfold hdOf; rw [upd1_same, upd1_same, if_pos ⟨by omega, by have := h.o0; omega⟩, h.o0, upd1_ne _ _ (by have := h.n0; omega), h.k0]; rfl
  · rw [upd1_same, h.o0, upd1_ne _ _ (by have := h.n0; omega), h.h0]
theorem aged_more {A : PA} {l i : Nat} {o n : Nat → Nat} {tk th : Nat → Nat → Int} (hA : A.L = l + 1) (hl0 : 0 < l) (hl8 : l < 8) (h : Aged A l i o n tk th) (x : Int) :
    bst (hdOf A.L o (upd1 n l (n l + 1)) (upd1 tk l (upd1 (tk l) (n l) ((i : Int) + 1)))) 8 = (if 64 * (l : Int) > i then (l : Int) else 0) ∧ upd1 th l (upd1 (th l) (n l) x) 0 (o 0) = -1 ∧ upd1 th l (upd1 (th l) (n l) x) l (o l) = x ∧
      Aged A l (i + 1) (upd1 o l (o l + 1)) (upd1 n l (n l + 1)) (upd1 tk l (upd1 (tk l) (n l) ((i : Int) + 1))) (upd1 th l (upd1 (th l) (n l) x)) := by
  have hon := h.on l hl0 (Nat.le_refl _)
  have hne : (0 : Nat) ≠ l := by omega
  refine ⟨?_, by rw [upd1_ne _ _ hne, h.o0, h.h0], by rw [upd1_same, hon, upd1_same], by rw [upd1_ne _ _ hne, h.o0], by rw [upd1_ne _ _ hne, h.n0], by rw [upd1_ne _ _ hne, h.k0], by rw [upd1_ne _ _ hne, h.h0], fun j h1 h2 => ?_⟩
  · rw [bst_two (p0 := 0) (t0 := 1) (p := o l) (t := (i : Int) + 1) (l := l) ?_ hl0 hl8 ?_ ?_]
    · rw [show (i : Int) + 1 - 1 = i by omega]
    · unfold hdOf; rw [upd1_ne _ _ hne, upd1_ne _ _ hne, if_pos ⟨by omega, by rw [h.o0, h.n0]; omega⟩, h.o0, h.k0]; rfl
    · unfold hdOf; rw [upd1_same, upd1_same, if_pos ⟨by omega, by omega⟩, hon, upd1_same]
    · intro j h1 h2
      unfold hdOf; rw [upd1_ne _ _ h2, if_neg (fun x => by have := h.on j h1 (by omega); omega)]
  · by_cases e : j = l
    · subst e; rw [upd1_same, upd1_same, hon]
    · rw [upd1_ne _ _ e, upd1_ne _ _ e]; exact h.on j h1 h2
end Go.Proofs.Ythnfheohfnhcpaa.Y
