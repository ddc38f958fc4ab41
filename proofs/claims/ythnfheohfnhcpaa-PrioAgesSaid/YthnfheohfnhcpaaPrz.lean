/- PrioAges: its run. -/
import Derived.Test.YthnfheohfnhcpaaPry
import Derived.Test.YthnfheohfnhcpaaTop
set_option linter.unusedSimpArgs false
set_option linter.unusedVariables false
set_option maxRecDepth 20000
set_option maxHeartbeats 4000000
namespace Go.Proofs.Ythnfheohfnhcpaa.Y
open Go Go.Conc Go.Proofs
theorem prioAges_run {w : World} {d : Int} (h1 : -9223372036854775808 ≤ d) (h2 : d ≤ 9223372036854775807) :
    ∃ M last o w' t', runNT Try.prog (M + 1) (solo (G (Frame.enter Try.prog 5 #[.int .i64 d] .normal) []) w) #[] = (.ended o w', t') ∧ runN Try.prog M (solo (G (Frame.enter Try.prog 5 #[.int .i64 d] .normal) []) w) = .next last ∧ step Try.prog last = .ended o w' ∧ Go.Conc.Good Try.prog (LawPost w) last o w' t' := by
  have hL : Lone (holdE Try.prog (LawPost w) 0) gh0 := ⟨gh0_free, fun a h => h⟩
  obtain ⟨l, hl⟩ : ∃ l : Nat, (l : Int) = d % 8 := ⟨(d % 8).toNat, by omega⟩
  have hl8 : l < 8 := by omega
  have hb4 : Go.bits .and .i64 ((4 : Nat) : Int) (((4 : Nat) : Int) - 1) = 0 := andMod4 4 (by omega)
  have hpl : ∀ (s : Gh) (u : World), CallTo (holdE Try.prog (LawPost w) 0) 34 #[.int .i64 d, .int .i64 8] s u s (.int .i64 (l : Int)) u := fun s u => by rw [hl]; exact place_walk h1 h2
  clear hl
  have w1 := wrap64 (x := (l : Int) + 1) (by omega) (by omega)
  have w2 := wrap64 (x := 64 * ((l : Int) + 1)) (by omega) (by omega)
  have w3 := wrap64 (x := (l : Int) + 1 - 1) (by omega) (by omega)
  have w3' := wrap64 (x := (l : Int)) (by omega) (by omega)
  have w4 := wrap64 (x := 64 * (l : Int)) (by omega) (by omega)
  have e1 : (l : Int) + 1 - 1 = l := by omega
  refine run_of (by kernel_rfl) Try.func5 rfl ?_
  simp only [Try.ntmps5, List.size_toArray, List.length_cons, List.length_nil, Nat.reduceAdd, Nat.reduceSub, Array.replicate_succ, Array.replicate_zero, List.push_toArray, List.append_toArray, List.nil_append, List.cons_append]
  repeat (first | (first | refine codeY_seq ?_ | refine codeY_block ?_ | refine codeY_ret ?_ | refine codeY_skip ?_ | refine codeY_exit ?_ | refine codeY_label ?_ | refine thenY_n ?_ | refine thenY_e ?_ | refine thenY_r ?_ | refine blockY_n ?_ | refine blockY_e ?_ | refine blockY_r ?_ | refine blockY_o rfl ?_ | refine codeY_condT rfl ?_ | refine codeY_condF rfl ?_) | (refine codeY_region_k (fun K hK => ?_); simp only [List.size_toArray, List.length_cons, List.length_nil, Nat.reduceAdd, Nat.zero_add, List.range, List.range.loop]) | (refine opsY_nil ?_; refine hK _ _ _ _ ?_; clear hK K) | (first | (first | (refine opsY_move rfl rfl ?_; walk_nrm) | (refine opsY_assign rfl rfl ?_; walk_nrm)) | (refine opsY_unwanted rfl rfl ?_; walk_nrm) | (refine opsY_nw rfl rfl (nw_of (by rfl)) (fun Ky hKy => ?_); go_simp; refine hKy _ _ ⟨rfl, fun Kx => ?_⟩; clear Kx hKy Ky)))
  (refine opsY_callR (works_walk hL) rfl rfl rfl (by first | rfl | (simp [Act.eval]; done) | (simp [Act.eval]; rfl) | (simp [Act.eval]; exact ⟨rfl, rfl⟩)) ?_)
  rintro s v u ⟨rfl, rfl, hC⟩
  walk_nrm
  repeat (first | (first | refine codeY_seq ?_ | refine codeY_block ?_ | refine codeY_ret ?_ | refine codeY_skip ?_ | refine codeY_exit ?_ | refine codeY_label ?_ | refine thenY_n ?_ | refine thenY_e ?_ | refine thenY_r ?_ | refine blockY_n ?_ | refine blockY_e ?_ | refine blockY_r ?_ | refine blockY_o rfl ?_ | refine codeY_condT rfl ?_ | refine codeY_condF rfl ?_) | (refine codeY_region_k (fun K hK => ?_); simp only [List.size_toArray, List.length_cons, List.length_nil, Nat.reduceAdd, Nat.zero_add, List.range, List.range.loop]) | (refine opsY_nil ?_; refine hK _ _ _ _ ?_; clear hK K) | (first | (first | (refine opsY_move rfl rfl ?_; walk_nrm) | (refine opsY_assign rfl rfl ?_; walk_nrm)) | (refine opsY_unwanted rfl rfl ?_; walk_nrm) | (refine opsY_nw rfl rfl (nw_of (by rfl)) (fun Ky hKy => ?_); go_simp; refine hKy _ _ ⟨rfl, fun Kx => ?_⟩; clear Kx hKy Ky)))
  (refine opsY_callTo (hpl _ _) rfl rfl rfl (by first | rfl | (simp [Act.eval]; done) | (simp [Act.eval]; rfl) | (simp [Act.eval]; exact ⟨rfl, rfl⟩)) ?_; walk_nrm)
  repeat (first | (first | refine codeY_seq ?_ | refine codeY_block ?_ | refine codeY_ret ?_ | refine codeY_skip ?_ | refine codeY_exit ?_ | refine codeY_label ?_ | refine thenY_n ?_ | refine thenY_e ?_ | refine thenY_r ?_ | refine blockY_n ?_ | refine blockY_e ?_ | refine blockY_r ?_ | refine blockY_o rfl ?_ | refine codeY_condT rfl ?_ | refine codeY_condF rfl ?_) | (refine codeY_region_k (fun K hK => ?_); simp only [List.size_toArray, List.length_cons, List.length_nil, Nat.reduceAdd, Nat.zero_add, List.range, List.range.loop]) | (refine opsY_nil ?_; refine hK _ _ _ _ ?_; clear hK K) | (first | (first | (refine opsY_move rfl rfl ?_; walk_nrm) | (refine opsY_assign rfl rfl ?_; walk_nrm)) | (refine opsY_unwanted rfl rfl ?_; walk_nrm) | (refine opsY_nw rfl rfl (nw_of (by rfl)) (fun Ky hKy => ?_); go_simp; refine hKy _ _ ⟨rfl, fun Kx => ?_⟩; clear Kx hKy Ky)))
  (refine opsY_callR (prnew_good hL (L := l + 1) (room := 4) (by omega) (by omega) (by omega) (by omega) hb4) rfl rfl rfl (by first | rfl | (simp [Act.eval]; done) | (simp [Act.eval]; rfl) | (simp [Act.eval]; exact ⟨rfl, rfl⟩)) ?_)
  rintro s v u1 ⟨rfl, hC1, A, hA1, hA2, rfl, hw, hp, hlo⟩
  have hM : AndMod A.room := by rw [hA2]; exact andMod4
  have hw : PW u1 A (ival A.room) := by rw [hA2]; exact hw
  have hP := pq_init hw
  have hlo : ∀ k, k < A.N → w.heap.size ≤ A.cb k := fun k hk => Nat.le_trans hC.size (hlo k hk)
  have hC := hC.trans hC1 (fun _ _ x => x)
  walk_nrm
  repeat (first | (first | refine codeY_seq ?_ | refine codeY_block ?_ | refine codeY_ret ?_ | refine codeY_skip ?_ | refine codeY_exit ?_ | refine codeY_label ?_ | refine thenY_n ?_ | refine thenY_e ?_ | refine thenY_r ?_ | refine blockY_n ?_ | refine blockY_e ?_ | refine blockY_r ?_ | refine blockY_o rfl ?_ | refine codeY_condT rfl ?_ | refine codeY_condF rfl ?_) | (refine codeY_region_k (fun K hK => ?_); simp only [List.size_toArray, List.length_cons, List.length_nil, Nat.reduceAdd, Nat.zero_add, List.range, List.range.loop]) | (refine opsY_nil ?_; refine hK _ _ _ _ ?_; clear hK K) | (first | (first | (refine opsY_move rfl rfl ?_; walk_nrm) | (refine opsY_assign rfl rfl ?_; walk_nrm)) | (refine opsY_unwanted rfl rfl ?_; walk_nrm) | (refine opsY_nw rfl rfl (nw_of (by rfl)) (fun Ky hKy => ?_); go_simp; refine hKy _ _ ⟨rfl, fun Kx => ?_⟩; clear Kx hKy Ky)))
  (refine opsY_callR (seq_put hL (i := 0) (x := -1) hM hP hw (by omega) (by show 0 < 0 + A.room; omega) (by omega)) rfl rfl rfl (by first | rfl | (simp [Act.eval]; done) | (simp [Act.eval]; rfl) | (simp [Act.eval]; exact ⟨rfl, rfl⟩)) ?_)
  rintro s v u2 ⟨rfl, rfl, hC2, val, hw2, hP2⟩
  have hC := seq_chg hC hlo hC2
  walk_nrm
  repeat (first | (first | refine codeY_seq ?_ | refine codeY_block ?_ | refine codeY_ret ?_ | refine codeY_skip ?_ | refine codeY_exit ?_ | refine codeY_label ?_ | refine thenY_n ?_ | refine thenY_e ?_ | refine thenY_r ?_ | refine blockY_n ?_ | refine blockY_e ?_ | refine blockY_r ?_ | refine blockY_o rfl ?_ | refine codeY_condT rfl ?_ | refine codeY_condF rfl ?_) | (refine codeY_region_k (fun K hK => ?_); simp only [List.size_toArray, List.length_cons, List.length_nil, Nat.reduceAdd, Nat.zero_add, List.range, List.range.loop]) | (refine opsY_nil ?_; refine hK _ _ _ _ ?_; clear hK K) | (first | (first | (refine opsY_move rfl rfl ?_; walk_nrm) | (refine opsY_assign rfl rfl ?_; walk_nrm)) | (refine opsY_unwanted rfl rfl ?_; walk_nrm) | (refine opsY_nw rfl rfl (nw_of (by rfl)) (fun Ky hKy => ?_); go_simp; refine hKy _ _ ⟨rfl, fun Kx => ?_⟩; clear Kx hKy Ky)))
  have hAg : Aged A l 1 (fun _ => 0) (upd1 (fun _ => 0) 0 (0 + 1)) (upd1 (fun _ _ => (0 : Int)) 0 (upd1 (fun _ => (0 : Int)) 0 ((0 : Nat) + 1))) (upd1 (fun _ _ => (0 : Int)) 0 (upd1 (fun _ => (0 : Int)) 0 (-1))) :=
    ⟨rfl, rfl, rfl, rfl, fun j h1 h2 => by rw [upd1_ne _ _ (by omega)]⟩
  have hN := hw2.n

  refine codeY_loop (fun s' a u => s' = gh0 ∧ ∃ (i : Nat) (val : Nat → Int) (o n : Nat → Nat) (tk th : Nat → Nat → Int), 1 ≤ i ∧ (i ≤ 1 ∨ i ≤ 64 * l) ∧ Chg (fun _ => False) w u ∧ PW u A val ∧ Pq A val i o n tk th ∧ Aged A l i o n tk th ∧ ∃ jk : Nat → Value, a = (⟨#[.int .i64 ((l : Int) + 1), jk 1, .bool false, jk 3, .pointer (some ⟨A.p, 0, none⟩), jk 5, .int .i64 i, jk 7, jk 8, jk 9, jk 10, jk 11, jk 12, jk 13, jk 14, jk 15, jk 16, jk 17, jk 18, jk 19, jk 20, jk 21, jk 22, jk 23, jk 24, jk 25, jk 26, jk 27, jk 28, jk 29, jk 30, jk 31, jk 32, jk 33, jk 34, jk 35, jk 36, jk 37, jk 38, jk 39, jk 40, jk 41, jk 42, jk 43, jk 44, jk 45, jk 46, jk 47, jk 48, jk 49, jk 50, jk 51, jk 52, jk 53, jk 54, jk 55, jk 56, jk 57, jk 58, jk 59, jk 60, jk 61, jk 62, jk 63, jk 64, jk 65, jk 66, jk 67, jk 68, jk 69], []⟩ : Act)) (fun _ a _ => match a.tmps.getD 6 undef with | .int _ x => ((1000 : Int) - x).toNat | _ => 0) ⟨rfl, 1, _, _, _, _, _, Nat.le_refl _, .inl (Nat.le_refl _), hC, hw2, hP2, hAg, junk_intro _ rfl⟩ ?_
  clear hN hC hw2 hP2 hAg
  rintro s' a u ⟨rfl, i, val, o, n, tk, th, hi1, hi2, hC, hw, hP, hAg, jk, rfl⟩
  have c1 : (i : Int) ≤ 64 * ((l : Int) + 1) := by omega
  have c2 : ¬ ((i : Int) = -1) := by omega
  have c3 : (0 : Int) ≤ i := by omega
  have w5 := wrap64 (x := (i : Int) + 1) (by omega) (by omega)
  repeat (first | (first | refine codeY_seq ?_ | refine codeY_block ?_ | refine codeY_ret ?_ | refine codeY_skip ?_ | refine codeY_exit ?_ | refine codeY_label ?_ | refine thenY_n ?_ | refine thenY_e ?_ | refine thenY_r ?_ | refine blockY_n ?_ | refine blockY_e ?_ | refine blockY_r ?_ | refine blockY_o rfl ?_ | refine codeY_condT rfl ?_ | refine codeY_condF rfl ?_) | (refine codeY_region_k (fun K hK => ?_); simp only [List.size_toArray, List.length_cons, List.length_nil, Nat.reduceAdd, Nat.zero_add, List.range, List.range.loop]) | (refine opsY_nil ?_; refine hK _ _ _ _ ?_; clear hK K) | (first | (first | (refine opsY_move rfl rfl ?_; walk_nrm) | (refine opsY_assign rfl rfl ?_; walk_nrm)) | (refine opsY_unwanted rfl rfl ?_; walk_nrm) | (refine opsY_nw rfl rfl (nw_of (by rfl)) (fun Ky hKy => ?_); go_simp; refine hKy _ _ ⟨rfl, fun Kx => ?_⟩; clear Kx hKy Ky)))
  have hroom : n l < o l + A.room := by
    by_cases e : l = 0
    · subst e; have := hAg.o0; have := hAg.n0; omega
    · have := hAg.on l (by omega) (Nat.le_refl _); omega
  (refine opsY_callR (seq_put hL (i := l) (x := i) hM hP hw (by omega) hroom (by omega)) rfl rfl rfl (by first | rfl | (simp [Act.eval]; done) | (simp [Act.eval]; rfl) | (simp [Act.eval]; exact ⟨rfl, rfl⟩)) ?_)
  rintro s v u3 ⟨rfl, rfl, hC3, val3, hw3, hP3⟩
  have hC := seq_chg hC hlo hC3
  walk_nrm
  repeat (first | (first | refine codeY_seq ?_ | refine codeY_block ?_ | refine codeY_ret ?_ | refine codeY_skip ?_ | refine codeY_exit ?_ | refine codeY_label ?_ | refine thenY_n ?_ | refine thenY_e ?_ | refine thenY_r ?_ | refine blockY_n ?_ | refine blockY_e ?_ | refine blockY_r ?_ | refine blockY_o rfl ?_ | refine codeY_condT rfl ?_ | refine codeY_condF rfl ?_) | (refine codeY_region_k (fun K hK => ?_); simp only [List.size_toArray, List.length_cons, List.length_nil, Nat.reduceAdd, Nat.zero_add, List.range, List.range.loop]) | (refine opsY_nil ?_; refine hK _ _ _ _ ?_; clear hK K) | (first | (first | (refine opsY_move rfl rfl ?_; walk_nrm) | (refine opsY_assign rfl rfl ?_; walk_nrm)) | (refine opsY_unwanted rfl rfl ?_; walk_nrm) | (refine opsY_nw rfl rfl (nw_of (by rfl)) (fun Ky hKy => ?_); go_simp; refine hKy _ _ ⟨rfl, fun Kx => ?_⟩; clear Kx hKy Ky)))
  (refine opsY_callR (seq_take hL hM hP3 hw3) rfl rfl rfl (by first | rfl | (simp [Act.eval]; done) | (simp [Act.eval]; rfl) | (simp [Act.eval]; exact ⟨rfl, rfl⟩)) ?_)
  rintro s v u4 ⟨rfl, hC4, hx⟩
  have hC := seq_chg hC hlo hC4
  by_cases hl0 : l = 0
  · have hi : i = 1 := by omega
    subst hl0
    subst hi
    obtain ⟨b1, b2⟩ := aged_zero hA1 hAg ((1 : Nat) : Int)
    rcases hx with ⟨hb, _⟩ | ⟨i', hb, _, _, hv, _⟩
    · rw [b1] at hb; omega
    have hi' : i' = 0 := by rw [b1] at hb; omega
    subst hi'
    rw [b2] at hv
    subst hv
    clear b1 b2 hb
    walk_nrm
    repeat (first | (first | refine codeY_seq ?_ | refine codeY_block ?_ | refine codeY_ret ?_ | refine codeY_skip ?_ | refine codeY_exit ?_ | refine codeY_label ?_ | refine thenY_n ?_ | refine thenY_e ?_ | refine thenY_r ?_ | refine blockY_n ?_ | refine blockY_e ?_ | refine blockY_r ?_ | refine blockY_o rfl ?_ | refine codeY_condT rfl ?_ | refine codeY_condF rfl ?_) | (refine codeY_region_k (fun K hK => ?_); simp only [List.size_toArray, List.length_cons, List.length_nil, Nat.reduceAdd, Nat.zero_add, List.range, List.range.loop]) | (refine opsY_nil ?_; refine hK _ _ _ _ ?_; clear hK K) | (first | (first | (refine opsY_move rfl rfl ?_; walk_nrm) | (refine opsY_assign rfl rfl ?_; walk_nrm)) | (refine opsY_unwanted rfl rfl ?_; walk_nrm) | (refine opsY_nw rfl rfl (nw_of (by rfl)) (fun Ky hKy => ?_); go_simp; refine hKy _ _ ⟨rfl, fun Kx => ?_⟩; clear Kx hKy Ky)))
    exact ⟨rfl, ⟨_, results_1 Try.results5, fun d => ⟨rfl, chg_at hC d⟩⟩, gh0_free, rfl⟩
  · obtain ⟨b1, b2, b3, hAg'⟩ := aged_more hA1 (by omega) hl8 hAg (i : Int)
    by_cases hc : 64 * (l : Int) > i
    · rw [if_pos hc] at b1
      rcases hx with ⟨hb, _⟩ | ⟨i', hb, _, _, hv, val', hw', hP'⟩
      · rw [b1] at hb; omega
      have hi' : i' = l := by rw [b1] at hb; omega
      subst hi'
      rw [b3] at hv
      subst hv
      clear b1 b2 b3 hb
      walk_nrm
      repeat (first | (first | refine codeY_seq ?_ | refine codeY_block ?_ | refine codeY_ret ?_ | refine codeY_skip ?_ | refine codeY_exit ?_ | refine codeY_label ?_ | refine thenY_n ?_ | refine thenY_e ?_ | refine thenY_r ?_ | refine blockY_n ?_ | refine blockY_e ?_ | refine blockY_r ?_ | refine blockY_o rfl ?_ | refine codeY_condT rfl ?_ | refine codeY_condF rfl ?_) | (refine codeY_region_k (fun K hK => ?_); simp only [List.size_toArray, List.length_cons, List.length_nil, Nat.reduceAdd, Nat.zero_add, List.range, List.range.loop]) | (refine opsY_nil ?_; refine hK _ _ _ _ ?_; clear hK K) | (first | (first | (refine opsY_move rfl rfl ?_; walk_nrm) | (refine opsY_assign rfl rfl ?_; walk_nrm)) | (refine opsY_unwanted rfl rfl ?_; walk_nrm) | (refine opsY_nw rfl rfl (nw_of (by rfl)) (fun Ky hKy => ?_); go_simp; refine hKy _ _ ⟨rfl, fun Kx => ?_⟩; clear Kx hKy Ky)))
      refine ⟨⟨rfl, i + 1, val', _, _, _, _, by omega, by omega, hC, hw', hP', hAg', junk_intro _ rfl⟩, ?_⟩
      show ((1000 : Int) - ((i : Int) + 1)).toNat < ((1000 : Int) - (i : Int)).toNat
      omega
    · rw [if_neg hc] at b1
      have hie : (i : Int) = 64 * (l : Int) := by omega
      rcases hx with ⟨hb, _⟩ | ⟨i', hb, _, _, hv, _⟩
      · rw [b1] at hb; omega
      have hi' : i' = 0 := by rw [b1] at hb; omega
      subst hi'
      rw [b2] at hv
      subst hv
      clear b1 b2 b3 hb
      have hmx : (64 * (l : Int) == if 1 < 64 * (l : Int) then 64 * (l : Int) else 1) = true := by rw [if_pos (by omega)]; simp
      walk_nrm
      repeat (first | (first | refine codeY_seq ?_ | refine codeY_block ?_ | refine codeY_ret ?_ | refine codeY_skip ?_ | refine codeY_exit ?_ | refine codeY_label ?_ | refine thenY_n ?_ | refine thenY_e ?_ | refine thenY_r ?_ | refine blockY_n ?_ | refine blockY_e ?_ | refine blockY_r ?_ | refine blockY_o rfl ?_ | refine codeY_condT rfl ?_ | refine codeY_condF rfl ?_) | (refine codeY_region_k (fun K hK => ?_); simp only [List.size_toArray, List.length_cons, List.length_nil, Nat.reduceAdd, Nat.zero_add, List.range, List.range.loop]) | (refine opsY_nil ?_; refine hK _ _ _ _ ?_; clear hK K) | (first | (first | (refine opsY_move rfl rfl ?_; walk_nrm) | (refine opsY_assign rfl rfl ?_; walk_nrm)) | (refine opsY_unwanted rfl rfl ?_; walk_nrm) | (refine opsY_nw rfl rfl (nw_of (by rfl)) (fun Ky hKy => ?_); go_simp; refine hKy _ _ ⟨rfl, fun Kx => ?_⟩; clear Kx hKy Ky)))
      exact ⟨rfl, ⟨_, results_1 Try.results5, fun d => ⟨rfl, chg_at hC d⟩⟩, gh0_free, rfl⟩
end Go.Proofs.Ythnfheohfnhcpaa.Y
