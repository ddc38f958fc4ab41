/- The clock: its cells. -/
import Derived.Test.YthnfheohfnhcpaaChg
import Derived.Test.YthnfheohfnhcpaaCln
import Derived.Test.YthnfheohfnhcpaaDrw
import Derived.Test.YthnfheohfnhcpaaProg
import Derived.WalkKit
set_option linter.unusedSimpArgs false
set_option linter.unusedVariables false
set_option maxRecDepth 20000
set_option maxHeartbeats 4000000
namespace Go.Proofs.Ythnfheohfnhcpaa.Y
open Go Go.Conc Go.Proofs
variable {S : Type} {E : Eng Try.prog S}




/-- A clock whose first block is b: the time at b, 'busy' at b + 1, the structure at b + 2, then a slot's state and its due, slot by slot. -/
structure Clk (w : World) (b : Nat) (now busy : Int) (st due : Nat → Int) (fs : Nat → Value) : Prop where
  cnow : w.cell? ⟨b + 2, 0, none⟩ = some (.pointer (some ⟨b, 0, none⟩))
  cbusy : w.cell? ⟨b + 2, 1, none⟩ = some (.pointer (some ⟨b + 1, 0, none⟩))
  cst : ∀ i, i < 16 → w.cell? ⟨b + 2, 2 + i * 3, none⟩ = some (.pointer (some ⟨b + 3 + 2 * i, 0, none⟩))
  cdue : ∀ i, i < 16 → w.cell? ⟨b + 2, 2 + i * 3 + 1, none⟩ = some (.pointer (some ⟨b + 4 + 2 * i, 0, none⟩))
  cf : ∀ i, i < 16 → w.cell? ⟨b + 2, 2 + i * 3 + 2, none⟩ = some (fs i)
  cz : ∀ o, w.frozen? ⟨b + 2, o, none⟩ = false
  now : IsC w b now
  busy : IsC w (b + 1) busy
  st : ∀ i, i < 16 → IsC w (b + 3 + 2 * i) (st i)
  due : ∀ i, i < 16 → IsC w (b + 4 + 2 * i) (due i)
/-- .. in the making: the first n slots. -/
structure ClkN (w : World) (b n : Nat) : Prop where
  cnow : w.cell? ⟨b + 2, 0, none⟩ = some (.pointer (some ⟨b, 0, none⟩))
  cbusy : w.cell? ⟨b + 2, 1, none⟩ = some (.pointer (some ⟨b + 1, 0, none⟩))
  cst : ∀ i, i < n → w.cell? ⟨b + 2, 2 + i * 3, none⟩ = some (.pointer (some ⟨b + 3 + 2 * i, 0, none⟩))
  cdue : ∀ i, i < n → w.cell? ⟨b + 2, 2 + i * 3 + 1, none⟩ = some (.pointer (some ⟨b + 4 + 2 * i, 0, none⟩))
  there : ∀ o, o < 50 → (w.cell? ⟨b + 2, o, none⟩).isSome = true
  cf : ∀ i, i < 16 → w.cell? ⟨b + 2, 2 + i * 3 + 2, none⟩ = some .nilFunc
  cz : ∀ o, w.frozen? ⟨b + 2, o, none⟩ = false
  now : IsC w b 0
  busy : IsC w (b + 1) 0
  st : ∀ i, i < n → IsC w (b + 3 + 2 * i) 0
  due : ∀ i, i < n → IsC w (b + 4 + 2 * i) 0
  size : w.heap.size = b + 3 + 2 * n
def clkObj (b : Nat) : Obj := .cells #[.pointer (some ⟨b, 0, none⟩), .pointer (some ⟨b + 1, 0, none⟩), .pointer none, .pointer none, .nilFunc, .pointer none, .pointer none, .nilFunc, .pointer none, .pointer none, .nilFunc, .pointer none, .pointer none, .nilFunc, .pointer none, .pointer none, .nilFunc, .pointer none, .pointer none, .nilFunc, .pointer none, .pointer none, .nilFunc, .pointer none, .pointer none, .nilFunc, .pointer none, .pointer none, .nilFunc, .pointer none, .pointer none, .nilFunc, .pointer none, .pointer none, .nilFunc, .pointer none, .pointer none, .nilFunc, .pointer none, .pointer none, .nilFunc, .pointer none, .pointer none, .nilFunc, .pointer none, .pointer none, .nilFunc, .pointer none, .pointer none, .nilFunc] 29
theorem clkN_zero (w : World) : ClkN (((w.alloc (cellObj 0)).alloc (cellObj 0)).alloc (clkObj w.heap.size)) w.heap.size 0 := by
  have hsz : ((w.alloc (cellObj 0)).alloc (cellObj 0)).heap.size = w.heap.size + 2 := by rw [World.size_alloc, World.size_alloc]
  have hself := heap_alloc_self ((w.alloc (cellObj 0)).alloc (cellObj 0)) (clkObj w.heap.size)
  rw [hsz] at hself
  have hcell : ∀ o, (((w.alloc (cellObj 0)).alloc (cellObj 0)).alloc (clkObj w.heap.size)).cell? ⟨w.heap.size + 2, o, none⟩ = (match clkObj w.heap.size with | .cells c _ _ => c[o]? | _ => none) := fun o => by
    unfold World.cell?; simp only; rw [hself]; rfl
  refine ⟨hcell 0, hcell 1, fun i hi => by omega, fun i hi => by omega, fun o ho => ?_, fun i hi => ?_, fun o => ?_, ?_, ?_, fun i hi => by omega, fun i hi => by omega, ?_⟩
  · rw [hcell]
    obtain ⟨c, hc, hs⟩ : ∃ c : Array Value, clkObj w.heap.size = .cells c 29 (0, 0) ∧ c.size = 50 := ⟨_, rfl, rfl⟩
    rw [hc]
    show (c[o]?).isSome = true
    rw [Array.getElem?_eq_getElem (by omega)]; rfl
  · rw [hcell]
    match i, hi with
    | 0, _ => rfl
    | 1, _ => rfl
    | 2, _ => rfl
    | 3, _ => rfl
    | 4, _ => rfl
    | 5, _ => rfl
    | 6, _ => rfl
    | 7, _ => rfl
    | 8, _ => rfl
    | 9, _ => rfl
    | 10, _ => rfl
    | 11, _ => rfl
    | 12, _ => rfl
    | 13, _ => rfl
    | 14, _ => rfl
    | 15, _ => rfl
    | n + 16, h => exact absurd h (by omega)
  · unfold World.frozen?; simp only; rw [hself]; simp [clkObj]
  · exact (isC_alloc.more _).more _
  · have := isC_alloc (w := w.alloc (cellObj 0)) (v := 0)
    rw [World.size_alloc] at this
    exact this.more _
  · rw [World.size_alloc, hsz]
theorem ClkN.next {u : World} {b n : Nat} (h : ClkN u b n) (hn : n < 16) :
    ClkN ((((u.alloc (cellObj 0)).alloc (cellObj 0)).setCell ⟨b + 2, 2 + n * 3, none⟩ (.pointer (some ⟨u.heap.size, 0, none⟩))).setCell ⟨b + 2, 2 + n * 3 + 1, none⟩ (.pointer (some ⟨(u.alloc (cellObj 0)).heap.size, 0, none⟩))) b (n + 1) := by
  have hsz := h.size
  have h1 : Chg (fun _ => False) u ((u.alloc (cellObj 0)).alloc (cellObj 0)) := ((Chg.refl _ u).alloc _).alloc _
  generalize hw2 : (u.alloc (cellObj 0)).alloc (cellObj 0) = w2 at *
  have hs2 : w2.heap.size = b + 3 + 2 * n + 2 := by rw [← hw2, World.size_alloc, World.size_alloc, hsz]
  have c0 : IsC w2 (b + 3 + 2 * n) 0 := by rw [← hw2, ← hsz]; exact isC_alloc.more _
  have c1 : IsC w2 (b + 4 + 2 * n) 0 := by
    have := isC_alloc (w := u.alloc (cellObj 0)) (v := 0)
    rw [hw2, World.size_alloc, hsz] at this
    rw [show b + 4 + 2 * n = b + 3 + 2 * n + 1 by omega]; exact this
  have e1 : u.heap.size = b + 3 + 2 * n := hsz
  have e2 : (u.alloc (cellObj 0)).heap.size = b + 4 + 2 * n := by rw [World.size_alloc]; omega
  rw [e1, e2]
  have keep : ∀ o v, u.cell? ⟨b + 2, o, none⟩ = some v → w2.cell? ⟨b + 2, o, none⟩ = some v := fun o v hv => h1.cell_is hv (fun x => x)
  have oth : ∀ (p q : Nat) (x y : Value) (o : Nat), o ≠ p → o ≠ q → ((w2.setCell ⟨b + 2, p, none⟩ x).setCell ⟨b + 2, q, none⟩ y).cell? ⟨b + 2, o, none⟩ = w2.cell? ⟨b + 2, o, none⟩ := fun p q x y o h1 h2 => by
    rw [World.cell?_setCell_other _ _ _ _ (fun e => h2 (congrArg Addr.off e).symm), World.cell?_setCell_other _ _ _ _ (fun e => h1 (congrArg Addr.off e).symm)]
  have isc : ∀ (p q : Nat) (x y : Value) (k : Nat) (v : Int), k ≠ b + 2 → IsC w2 k v → IsC ((w2.setCell ⟨b + 2, p, none⟩ x).setCell ⟨b + 2, q, none⟩ y) k v := fun p q x y k v hk hv => (hv.other hk x).other hk y
  have there : ∀ o, o < 50 → (w2.cell? ⟨b + 2, o, none⟩).isSome = true := fun o ho => by
    obtain ⟨v, hv⟩ := Option.isSome_iff_exists.1 (h.there o ho)
    rw [keep o v hv]; rfl
  obtain ⟨x0, hx0⟩ := Option.isSome_iff_exists.1 (there (2 + n * 3) (by omega))
  obtain ⟨x1, hx1⟩ := Option.isSome_iff_exists.1 (there (2 + n * 3 + 1) (by omega))
  refine ⟨?_, ?_, fun i hi => ?_, fun i hi => ?_, fun o ho => ?_, fun i hi => ?_, fun o => ?_, ?_, ?_, fun i hi => ?_, fun i hi => ?_, ?_⟩
  · rw [oth _ _ _ _ _ (by omega) (by omega)]; exact keep _ _ h.cnow
  · rw [oth _ _ _ _ _ (by omega) (by omega)]; exact keep _ _ h.cbusy
  · by_cases e : i = n
    · subst e
      rw [World.cell?_setCell_other _ _ _ _ (by simp)]
      exact World.cell?_setCell_same _ _ _ hx0
    · rw [oth _ _ _ _ _ (by omega) (by omega)]; exact keep _ _ (h.cst i (by omega))
  · by_cases e : i = n
    · subst e
      exact World.cell?_setCell_same (u := x1) _ _ _ (by rw [World.cell?_setCell_other _ _ _ _ (by simp)]; exact hx1)
    · rw [oth _ _ _ _ _ (by omega) (by omega)]; exact keep _ _ (h.cdue i (by omega))
  · by_cases e0 : o = 2 + n * 3
    · subst e0
      rw [World.cell?_setCell_other _ _ _ _ (by simp), World.cell?_setCell_same _ _ _ hx0]; rfl
    · by_cases e1 : o = 2 + n * 3 + 1
      · subst e1
        rw [World.cell?_setCell_same (u := x1) _ _ _ (by rw [World.cell?_setCell_other _ _ _ _ (by simp)]; exact hx1)]; rfl
      · rw [oth _ _ _ _ _ e0 e1]; exact there o ho
  · rw [oth _ _ _ _ _ (by omega) (by omega)]; exact keep _ _ (h.cf i hi)
  · rw [World.frozen?_setCell, World.frozen?_setCell, h1.frozen (by simp; omega) (fun x => x)]; exact h.cz o
  · exact isc _ _ _ _ _ _ (by omega) (h1.isC h.now (fun x => x))
  · exact isc _ _ _ _ _ _ (by omega) (h1.isC h.busy (fun x => x))
  · by_cases e : i = n
    · subst e; exact isc _ _ _ _ _ _ (by omega) c0
    · exact isc _ _ _ _ _ _ (by omega) (h1.isC (h.st i (by omega)) (fun x => x))
  · by_cases e : i = n
    · subst e; exact isc _ _ _ _ _ _ (by omega) c1
    · exact isc _ _ _ _ _ _ (by omega) (h1.isC (h.due i (by omega)) (fun x => x))
  · rw [size_setCell, size_setCell, hs2]; omega
theorem ClkN.all {u : World} {b : Nat} (h : ClkN u b 16) : Clk u b 0 0 (fun _ => 0) (fun _ => 0) (fun _ => .nilFunc) := ⟨h.cnow, h.cbusy, h.cst, h.cdue, h.cf, h.cz, h.now, h.busy, h.st, h.due⟩
theorem cnew {σ : S} {w : World} (hL : Lone E σ) : CallR E 29 #[] σ w (fun σ' v w' => σ' = σ ∧ v = .pointer (some ⟨w.heap.size + 2, 0, none⟩) ∧ Clk w' w.heap.size 0 0 (fun _ => 0) (fun _ => 0) (fun _ => .nilFunc) ∧ Chg (fun _ => False) w w' ∧ w'.heap.size = w.heap.size + 35) := by
  have hs := hL.no
  refine callR_of Try.func29 (by kernel_rfl) rfl ?_; simp only [Try.ntmps29, List.size_toArray, List.length_cons, List.length_nil, Nat.reduceAdd, Nat.reduceSub, Array.replicate_succ, Array.replicate_zero, List.push_toArray, List.append_toArray, List.nil_append, List.cons_append]
  repeat (first | (first | refine codeY_seq ?_ | refine codeY_block ?_ | refine codeY_ret ?_ | refine codeY_skip ?_ | refine codeY_exit ?_ | refine codeY_label ?_ | refine thenY_n ?_ | refine thenY_e ?_ | refine thenY_r ?_ | refine blockY_n ?_ | refine blockY_e ?_ | refine blockY_r ?_ | refine blockY_o rfl ?_ | refine codeY_condT rfl ?_ | refine codeY_condF rfl ?_) | (refine codeY_region_k (fun K hK => ?_); simp only [List.size_toArray, List.length_cons, List.length_nil, Nat.reduceAdd, Nat.zero_add, List.range, List.range.loop]) | (refine opsY_nil ?_; refine hK _ _ _ _ ?_; clear hK K) | (first | (first | (refine opsY_move rfl rfl ?_; walk_nrm) | (refine opsY_assign rfl rfl ?_; walk_nrm)) | (refine opsY_unwanted rfl rfl ?_; walk_nrm) | (refine opsY_nw rfl rfl (nw_of (by rfl)) (fun Ky hKy => ?_); go_simp; refine hKy _ _ ⟨rfl, fun Kx => ?_⟩; clear Kx hKy Ky)))
  (refine opsY_callTo (new_cell 0 (hs _)) rfl rfl rfl (by first | rfl | (simp [Act.eval]; done) | (simp [Act.eval]; rfl) | (simp [Act.eval]; exact ⟨rfl, rfl⟩)) ?_; walk_nrm)
  repeat (first | (first | refine codeY_seq ?_ | refine codeY_block ?_ | refine codeY_ret ?_ | refine codeY_skip ?_ | refine codeY_exit ?_ | refine codeY_label ?_ | refine thenY_n ?_ | refine thenY_e ?_ | refine thenY_r ?_ | refine blockY_n ?_ | refine blockY_e ?_ | refine blockY_r ?_ | refine blockY_o rfl ?_ | refine codeY_condT rfl ?_ | refine codeY_condF rfl ?_) | (refine codeY_region_k (fun K hK => ?_); simp only [List.size_toArray, List.length_cons, List.length_nil, Nat.reduceAdd, Nat.zero_add, List.range, List.range.loop]) | (refine opsY_nil ?_; refine hK _ _ _ _ ?_; clear hK K) | (first | (first | (refine opsY_move rfl rfl ?_; walk_nrm) | (refine opsY_assign rfl rfl ?_; walk_nrm)) | (refine opsY_unwanted rfl rfl ?_; walk_nrm) | (refine opsY_nw rfl rfl (nw_of (by rfl)) (fun Ky hKy => ?_); go_simp; refine hKy _ _ ⟨rfl, fun Kx => ?_⟩; clear Kx hKy Ky)))
  (refine opsY_callTo (new_cell 0 (hs _)) rfl rfl rfl (by first | rfl | (simp [Act.eval]; done) | (simp [Act.eval]; rfl) | (simp [Act.eval]; exact ⟨rfl, rfl⟩)) ?_; walk_nrm)
  repeat (first | (first | refine codeY_seq ?_ | refine codeY_block ?_ | refine codeY_ret ?_ | refine codeY_skip ?_ | refine codeY_exit ?_ | refine codeY_label ?_ | refine thenY_n ?_ | refine thenY_e ?_ | refine thenY_r ?_ | refine blockY_n ?_ | refine blockY_e ?_ | refine blockY_r ?_ | refine blockY_o rfl ?_ | refine codeY_condT rfl ?_ | refine codeY_condF rfl ?_) | (refine codeY_region_k (fun K hK => ?_); simp only [List.size_toArray, List.length_cons, List.length_nil, Nat.reduceAdd, Nat.zero_add, List.range, List.range.loop]) | (refine opsY_nil ?_; refine hK _ _ _ _ ?_; clear hK K) | (first | (first | (refine opsY_move rfl rfl ?_; walk_nrm) | (refine opsY_assign rfl rfl ?_; walk_nrm)) | (refine opsY_unwanted rfl rfl ?_; walk_nrm) | (refine opsY_nw rfl rfl (nw_of (by rfl)) (fun Ky hKy => ?_); go_simp; refine hKy _ _ ⟨rfl, fun Kx => ?_⟩; clear Kx hKy Ky)))
  have hN := clkN_zero w
  have hch : Chg (fun _ => False) w (((w.alloc (cellObj 0)).alloc (cellObj 0)).alloc (clkObj w.heap.size)) := (((Chg.refl (fun _ => False) w).alloc (cellObj 0)).alloc (cellObj 0)).alloc _
  unfold clkObj at hN hch
  revert hN hch
  generalize (((w.alloc (cellObj 0)).alloc (cellObj 0)).alloc _) = w1
  intro hN hch
  refine codeY_loop (fun s a u => s = σ ∧ ∃ n : Nat, n ≤ 16 ∧ ClkN u w.heap.size n ∧ Chg (fun _ => False) w u ∧ ∃ jk : Nat → Value, a = (⟨#[.pointer none, .pointer (some ⟨w.heap.size + 2, 0, none⟩), jk 2, jk 3, jk 4, jk 5, jk 6, .int .i64 n, jk 8, jk 9, jk 10, jk 11, jk 12, jk 13, jk 14, jk 15, jk 16, jk 17, jk 18, jk 19, jk 20, jk 21, jk 22, jk 23, jk 24, jk 25], []⟩ : Act)) (fun _ _ u => w.heap.size + 35 - u.heap.size) ⟨rfl, 0, by omega, hN, hch, junk_intro _ rfl⟩ ?_
  rintro σ' a' u ⟨rfl, n, hn, hC, hc, jk, rfl⟩
  by_cases hlt : (n : Int) < 16
  · have hn0 : (0 : Int) ≤ n := by omega
    repeat (first | (first | refine codeY_seq ?_ | refine codeY_block ?_ | refine codeY_ret ?_ | refine codeY_skip ?_ | refine codeY_exit ?_ | refine codeY_label ?_ | refine thenY_n ?_ | refine thenY_e ?_ | refine thenY_r ?_ | refine blockY_n ?_ | refine blockY_e ?_ | refine blockY_r ?_ | refine blockY_o rfl ?_ | refine codeY_condT rfl ?_ | refine codeY_condF rfl ?_) | (refine codeY_region_k (fun K hK => ?_); simp only [List.size_toArray, List.length_cons, List.length_nil, Nat.reduceAdd, Nat.zero_add, List.range, List.range.loop]) | (refine opsY_nil ?_; refine hK _ _ _ _ ?_; clear hK K) | (first | (first | (refine opsY_move rfl rfl ?_; walk_nrm) | (refine opsY_assign rfl rfl ?_; walk_nrm)) | (refine opsY_unwanted rfl rfl ?_; walk_nrm) | (refine opsY_nw rfl rfl (nw_of (by rfl)) (fun Ky hKy => ?_); go_simp; refine hKy _ _ ⟨rfl, fun Kx => ?_⟩; clear Kx hKy Ky)))
    (refine codeY_drawn_k (fun _ => True) (by kernel_rfl) (fun K hK => ?_); simp only [List.size_toArray, List.length_cons, List.length_nil, Nat.reduceAdd, Nat.zero_add, Array.replicate_succ, Array.replicate_zero, List.push_toArray, List.nil_append, List.cons_append])
    (first | (refine anyY_take (i := 0) rfl (by kernel_rfl) (by kernel_rfl) (by decide +kernel) (by kernel_rfl) (.inl ⟨rfl, trivial, fun Cw hCw => rfl⟩) trivial ?_; walk_nrm; try (simp only [List.setIfInBounds_toArray, List.set_cons_zero, List.set_cons_succ])) | (refine anyY_one (i := 0) (by kernel_rfl) ?_; (first | refine opY_nw rfl rfl (show Nw _ from trivial) (fun Ky hKy => ?_) | refine opY_nw rfl rfl (nw_of (by rfl)) (fun Ky hKy => ?_)); go_simp; refine hKy _ _ ⟨rfl, ?_⟩; clear hKy Ky; refine ⟨.inr trivial, ?_⟩; walk_nrm; try (simp only [List.setIfInBounds_toArray, List.set_cons_zero, List.set_cons_succ])))
    (first | (refine anyY_take (i := 1) rfl (by kernel_rfl) (by kernel_rfl) (by decide +kernel) (by kernel_rfl) (.inl ⟨rfl, trivial, fun Cw hCw => rfl⟩) trivial ?_; walk_nrm; try (simp only [List.setIfInBounds_toArray, List.set_cons_zero, List.set_cons_succ])) | (refine anyY_one (i := 1) (by kernel_rfl) ?_; (first | refine opY_nw rfl rfl (show Nw _ from trivial) (fun Ky hKy => ?_) | refine opY_nw rfl rfl (nw_of (by rfl)) (fun Ky hKy => ?_)); go_simp; refine hKy _ _ ⟨rfl, ?_⟩; clear hKy Ky; refine ⟨.inr trivial, ?_⟩; walk_nrm; try (simp only [List.setIfInBounds_toArray, List.set_cons_zero, List.set_cons_succ])))
    (first | (refine anyY_take (i := 2) rfl (by kernel_rfl) (by kernel_rfl) (by decide +kernel) (by kernel_rfl) (.inl ⟨rfl, trivial, fun Cw hCw => rfl⟩) trivial ?_; walk_nrm; try (simp only [List.setIfInBounds_toArray, List.set_cons_zero, List.set_cons_succ])) | (refine anyY_one (i := 2) (by kernel_rfl) ?_; (first | refine opY_nw rfl rfl (show Nw _ from trivial) (fun Ky hKy => ?_) | refine opY_nw rfl rfl (nw_of (by rfl)) (fun Ky hKy => ?_)); go_simp; refine hKy _ _ ⟨rfl, ?_⟩; clear hKy Ky; refine ⟨.inr trivial, ?_⟩; walk_nrm; try (simp only [List.setIfInBounds_toArray, List.set_cons_zero, List.set_cons_succ])))
    (first | (refine anyY_take (i := 3) rfl (by kernel_rfl) (by kernel_rfl) (by decide +kernel) (by kernel_rfl) (.inl ⟨rfl, trivial, fun Cw hCw => rfl⟩) trivial ?_; walk_nrm; try (simp only [List.setIfInBounds_toArray, List.set_cons_zero, List.set_cons_succ])) | (refine anyY_one (i := 3) (by kernel_rfl) ?_; (first | refine opY_nw rfl rfl (show Nw _ from trivial) (fun Ky hKy => ?_) | refine opY_nw rfl rfl (nw_of (by rfl)) (fun Ky hKy => ?_)); go_simp; refine hKy _ _ ⟨rfl, ?_⟩; clear hKy Ky; refine ⟨.inr trivial, ?_⟩; walk_nrm; try (simp only [List.setIfInBounds_toArray, List.set_cons_zero, List.set_cons_succ])))
    (first | (refine anyY_take (i := 6) rfl (by kernel_rfl) (by kernel_rfl) (by decide +kernel) (by kernel_rfl) (.inl ⟨rfl, by exact nw_of (by rfl), fun Cw hCw => by go_simp; try rfl⟩) trivial ?_; walk_nrm; try (simp only [List.setIfInBounds_toArray, List.set_cons_zero, List.set_cons_succ])) | (refine anyY_one (i := 6) (by kernel_rfl) ?_; (first | refine opY_nw rfl rfl (show Nw _ from trivial) (fun Ky hKy => ?_) | refine opY_nw rfl rfl (nw_of (by rfl)) (fun Ky hKy => ?_)); go_simp; refine hKy _ _ ⟨rfl, ?_⟩; clear hKy Ky; refine ⟨.inr trivial, ?_⟩; walk_nrm; try (simp only [List.setIfInBounds_toArray, List.set_cons_zero, List.set_cons_succ])))
    (first | (refine anyY_take (i := 7) rfl (by kernel_rfl) (by kernel_rfl) (by decide +kernel) (by kernel_rfl) (.inl ⟨rfl, by exact nw_of (by rfl), fun Cw hCw => by go_simp; try rfl⟩) trivial ?_; walk_nrm; try (simp only [List.setIfInBounds_toArray, List.set_cons_zero, List.set_cons_succ])) | (refine anyY_one (i := 7) (by kernel_rfl) ?_; (first | refine opY_nw rfl rfl (show Nw _ from trivial) (fun Ky hKy => ?_) | refine opY_nw rfl rfl (nw_of (by rfl)) (fun Ky hKy => ?_)); go_simp; refine hKy _ _ ⟨rfl, ?_⟩; clear hKy Ky; refine ⟨.inr trivial, ?_⟩; walk_nrm; try (simp only [List.setIfInBounds_toArray, List.set_cons_zero, List.set_cons_succ])))
    (first | (refine anyY_take (i := 11) rfl (by kernel_rfl) (by kernel_rfl) (by decide +kernel) (by kernel_rfl) (.inl ⟨rfl, by exact nw_of (by rfl), fun Cw hCw => by go_simp; try rfl⟩) trivial ?_; walk_nrm; try (simp only [List.setIfInBounds_toArray, List.set_cons_zero, List.set_cons_succ])) | (refine anyY_one (i := 11) (by kernel_rfl) ?_; (first | refine opY_nw rfl rfl (show Nw _ from trivial) (fun Ky hKy => ?_) | refine opY_nw rfl rfl (nw_of (by rfl)) (fun Ky hKy => ?_)); go_simp; refine hKy _ _ ⟨rfl, ?_⟩; clear hKy Ky; refine ⟨.inr trivial, ?_⟩; walk_nrm; try (simp only [List.setIfInBounds_toArray, List.set_cons_zero, List.set_cons_succ])))
    (first | (refine anyY_take (i := 12) rfl (by kernel_rfl) (by kernel_rfl) (by decide +kernel) (by kernel_rfl) (.inl ⟨rfl, by exact nw_of (by rfl), fun Cw hCw => by go_simp; try rfl⟩) trivial ?_; walk_nrm; try (simp only [List.setIfInBounds_toArray, List.set_cons_zero, List.set_cons_succ])) | (refine anyY_one (i := 12) (by kernel_rfl) ?_; (first | refine opY_nw rfl rfl (show Nw _ from trivial) (fun Ky hKy => ?_) | refine opY_nw rfl rfl (nw_of (by rfl)) (fun Ky hKy => ?_)); go_simp; refine hKy _ _ ⟨rfl, ?_⟩; clear hKy Ky; refine ⟨.inr trivial, ?_⟩; walk_nrm; try (simp only [List.setIfInBounds_toArray, List.set_cons_zero, List.set_cons_succ])))
    (refine anyY_one (i := 4) (by kernel_rfl) ?_)
    (refine opY_callTo (new_cell 0 (hs _)) rfl rfl rfl (by first | rfl | (simp [Act.eval]; done) | (simp [Act.eval]; rfl) | (simp [Act.eval]; exact ⟨rfl, rfl⟩)) ?_; walk_nrm; try (simp only [List.setIfInBounds_toArray, List.set_cons_zero, List.set_cons_succ]))
    refine ⟨.inr trivial, ?_⟩
    (refine anyY_one (i := 5) (by kernel_rfl) ?_)
    (refine opY_callTo (new_cell 0 (hs _)) rfl rfl rfl (by first | rfl | (simp [Act.eval]; done) | (simp [Act.eval]; rfl) | (simp [Act.eval]; exact ⟨rfl, rfl⟩)) ?_; walk_nrm; try (simp only [List.setIfInBounds_toArray, List.set_cons_zero, List.set_cons_succ]))
    refine ⟨.inr trivial, ?_⟩
    (first | (refine anyY_take (i := 8) rfl (by kernel_rfl) (by kernel_rfl) (by decide +kernel) (by kernel_rfl) (.inl ⟨rfl, by exact nw_of (by rfl), fun Cw hCw => by go_simp; try rfl⟩) trivial ?_; walk_nrm; try (simp only [List.setIfInBounds_toArray, List.set_cons_zero, List.set_cons_succ])) | (refine anyY_one (i := 8) (by kernel_rfl) ?_; (first | refine opY_nw rfl rfl (show Nw _ from trivial) (fun Ky hKy => ?_) | refine opY_nw rfl rfl (nw_of (by rfl)) (fun Ky hKy => ?_)); go_simp; refine hKy _ _ ⟨rfl, ?_⟩; clear hKy Ky; refine ⟨.inr trivial, ?_⟩; walk_nrm; try (simp only [List.setIfInBounds_toArray, List.set_cons_zero, List.set_cons_succ])))
    (first | (refine anyY_take (i := 9) rfl (by kernel_rfl) (by kernel_rfl) (by decide +kernel) (by kernel_rfl) (.inl ⟨rfl, by exact nw_of (by rfl), fun Cw hCw => by go_simp; try rfl⟩) trivial ?_; walk_nrm; try (simp only [List.setIfInBounds_toArray, List.set_cons_zero, List.set_cons_succ])) | (refine anyY_one (i := 9) (by kernel_rfl) ?_; (first | refine opY_nw rfl rfl (show Nw _ from trivial) (fun Ky hKy => ?_) | refine opY_nw rfl rfl (nw_of (by rfl)) (fun Ky hKy => ?_)); go_simp; refine hKy _ _ ⟨rfl, ?_⟩; clear hKy Ky; refine ⟨.inr trivial, ?_⟩; walk_nrm; try (simp only [List.setIfInBounds_toArray, List.set_cons_zero, List.set_cons_succ])))
    have hN' := hC.next (by omega)
    have hc' : Chg (fun _ => False) w ((u.alloc (cellObj 0)).alloc (cellObj 0)) := (hc.alloc _).alloc _
    have hlw : w.heap.size ≤ w.heap.size + 2 := by omega
    have hsz := hC.size
    obtain ⟨x0, hx0⟩ := Option.isSome_iff_exists.1 (hC.there (2 + n * 3) (by omega))
    obtain ⟨x1, hx1⟩ := Option.isSome_iff_exists.1 (hC.there (2 + n * 3 + 1) (by omega))
    have hk : Chg (fun _ => False) u ((u.alloc (cellObj 0)).alloc (cellObj 0)) := ((Chg.refl _ u).alloc _).alloc _
    have hy0 := hk.cell_is hx0 (fun x => x)
    have hy1 := hk.cell_is hx1 (fun x => x)
    have hz : ∀ o, ((u.alloc (cellObj 0)).alloc (cellObj 0)).frozen? ⟨w.heap.size + 2, o, none⟩ = false := fun o => by rw [hk.frozen (by simp; omega) (fun x => x)]; exact hC.cz o
    (refine anyY_one (i := 10) (by kernel_rfl) ?_)
    (refine opY_store1 rfl rfl (by kernel_rfl) rfl rfl rfl rfl hy0 (hz _) (hs _) ?_; walk_nrm; try (simp only [List.setIfInBounds_toArray, List.set_cons_zero, List.set_cons_succ]))
    refine ⟨.inr trivial, ?_⟩
    (first | (refine anyY_take (i := 13) rfl (by kernel_rfl) (by kernel_rfl) (by decide +kernel) (by kernel_rfl) (.inl ⟨rfl, by exact nw_of (by rfl), fun Cw hCw => by go_simp; try rfl⟩) trivial ?_; walk_nrm; try (simp only [List.setIfInBounds_toArray, List.set_cons_zero, List.set_cons_succ])) | (refine anyY_one (i := 13) (by kernel_rfl) ?_; (first | refine opY_nw rfl rfl (show Nw _ from trivial) (fun Ky hKy => ?_) | refine opY_nw rfl rfl (nw_of (by rfl)) (fun Ky hKy => ?_)); go_simp; refine hKy _ _ ⟨rfl, ?_⟩; clear hKy Ky; refine ⟨.inr trivial, ?_⟩; walk_nrm; try (simp only [List.setIfInBounds_toArray, List.set_cons_zero, List.set_cons_succ])))
    (first | (refine anyY_take (i := 14) rfl (by kernel_rfl) (by kernel_rfl) (by decide +kernel) (by kernel_rfl) (.inl ⟨rfl, by exact nw_of (by rfl), fun Cw hCw => by go_simp; try rfl⟩) trivial ?_; walk_nrm; try (simp only [List.setIfInBounds_toArray, List.set_cons_zero, List.set_cons_succ])) | (refine anyY_one (i := 14) (by kernel_rfl) ?_; (first | refine opY_nw rfl rfl (show Nw _ from trivial) (fun Ky hKy => ?_) | refine opY_nw rfl rfl (nw_of (by rfl)) (fun Ky hKy => ?_)); go_simp; refine hKy _ _ ⟨rfl, ?_⟩; clear hKy Ky; refine ⟨.inr trivial, ?_⟩; walk_nrm; try (simp only [List.setIfInBounds_toArray, List.set_cons_zero, List.set_cons_succ])))
    (refine anyY_one (i := 15) (by kernel_rfl) ?_)
    have hy1' : (((u.alloc (cellObj 0)).alloc (cellObj 0)).setCell ⟨w.heap.size + 2, 2 + n * 3, none⟩ (.pointer (some ⟨u.heap.size, 0, none⟩))).cell? ⟨w.heap.size + 2, 2 + n * 3 + 1, none⟩ = some x1 := by rw [World.cell?_setCell_other _ _ _ _ (by simp)]; exact hy1
    have hz' : (((u.alloc (cellObj 0)).alloc (cellObj 0)).setCell ⟨w.heap.size + 2, 2 + n * 3, none⟩ (.pointer (some ⟨u.heap.size, 0, none⟩))).frozen? ⟨w.heap.size + 2, 2 + n * 3 + 1, none⟩ = false := by rw [World.frozen?_setCell]; exact hz _
    (refine opY_store1 rfl rfl (by kernel_rfl) rfl rfl rfl rfl hy1' hz' (hs _) ?_; walk_nrm; try (simp only [List.setIfInBounds_toArray, List.set_cons_zero, List.set_cons_succ]))
    refine ⟨.inr trivial, anyY_done (by kernel_rfl) (hK _ _ _ _ ?_) _⟩
    clear hK K
    have hc2 := (hc'.setCell (a := ⟨w.heap.size + 2, 2 + n * 3, none⟩) (.pointer (some ⟨u.heap.size, 0, none⟩)) (.inr hlw)).setCell (a := ⟨w.heap.size + 2, 2 + n * 3 + 1, none⟩) (.pointer (some ⟨(u.alloc (cellObj 0)).heap.size, 0, none⟩)) (.inr hlw)
    revert hN' hc2
    generalize (World.setCell (World.setCell _ _ _) _ _) = u2
    intro hN' hc2
    have hs2 := hN'.size
    have hwr := wrap64 (x := (n : Int) + 1) (by omega) (by omega)
    repeat (first | (first | refine codeY_seq ?_ | refine codeY_block ?_ | refine codeY_ret ?_ | refine codeY_skip ?_ | refine codeY_exit ?_ | refine codeY_label ?_ | refine thenY_n ?_ | refine thenY_e ?_ | refine thenY_r ?_ | refine blockY_n ?_ | refine blockY_e ?_ | refine blockY_r ?_ | refine blockY_o rfl ?_ | refine codeY_condT rfl ?_ | refine codeY_condF rfl ?_) | (refine codeY_region_k (fun K hK => ?_); simp only [List.size_toArray, List.length_cons, List.length_nil, Nat.reduceAdd, Nat.zero_add, List.range, List.range.loop]) | (refine opsY_nil ?_; refine hK _ _ _ _ ?_; clear hK K) | (first | (first | (refine opsY_move rfl rfl ?_; walk_nrm) | (refine opsY_assign rfl rfl ?_; walk_nrm)) | (refine opsY_unwanted rfl rfl ?_; walk_nrm) | (refine opsY_nw rfl rfl (nw_of (by rfl)) (fun Ky hKy => ?_); go_simp; refine hKy _ _ ⟨rfl, fun Kx => ?_⟩; clear Kx hKy Ky)))
    refine ⟨⟨rfl, n + 1, by omega, hN', hc2, junk_intro _ rfl⟩, by omega⟩
  · repeat (first | (first | refine codeY_seq ?_ | refine codeY_block ?_ | refine codeY_ret ?_ | refine codeY_skip ?_ | refine codeY_exit ?_ | refine codeY_label ?_ | refine thenY_n ?_ | refine thenY_e ?_ | refine thenY_r ?_ | refine blockY_n ?_ | refine blockY_e ?_ | refine blockY_r ?_ | refine blockY_o rfl ?_ | refine codeY_condT rfl ?_ | refine codeY_condF rfl ?_) | (refine codeY_region_k (fun K hK => ?_); simp only [List.size_toArray, List.length_cons, List.length_nil, Nat.reduceAdd, Nat.zero_add, List.range, List.range.loop]) | (refine opsY_nil ?_; refine hK _ _ _ _ ?_; clear hK K) | (first | (first | (refine opsY_move rfl rfl ?_; walk_nrm) | (refine opsY_assign rfl rfl ?_; walk_nrm)) | (refine opsY_unwanted rfl rfl ?_; walk_nrm) | (refine opsY_nw rfl rfl (nw_of (by rfl)) (fun Ky hKy => ?_); go_simp; refine hKy _ _ ⟨rfl, fun Kx => ?_⟩; clear Kx hKy Ky)))
    (first | refine bodyY_ret rfl (results_1 Try.results29) ?_ | refine bodyY_ret rfl (results_0 Try.results29) ?_ | refine bodyY_ret rfl (results_2 Try.results29) ?_ | refine bodyY_ret rfl (results_3 Try.results29) ?_ | refine bodyY_end rfl (results_1 Try.results29) ?_ | refine bodyY_end rfl (results_0 Try.results29) ?_ | refine bodyY_end rfl (results_2 Try.results29) ?_ | refine bodyY_end rfl (results_3 Try.results29) ?_)
    have : n = 16 := by omega
    subst this
    exact ⟨rfl, rfl, hC.all, hc, hC.size⟩
end Go.Proofs.Ythnfheohfnhcpaa.Y
