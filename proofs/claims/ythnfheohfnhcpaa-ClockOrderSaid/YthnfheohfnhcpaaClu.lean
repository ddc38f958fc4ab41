/- The clock: the timer that rings next. -/
import Derived.Test.YthnfheohfnhcpaaChg
import Derived.Test.YthnfheohfnhcpaaCls
import Derived.Test.YthnfheohfnhcpaaDrw
import Derived.Test.YthnfheohfnhcpaaDrw
import Derived.Test.YthnfheohfnhcpaaProg
import Derived.WalkKit
set_option linter.unusedSimpArgs false
set_option linter.unusedVariables false
set_option maxRecDepth 20000
set_option maxHeartbeats 4000000
namespace Go.Proofs.Ythnfheohfnhcpaa.Y
open Go Go.Conc Go.Proofs
variable {S : Type} {E : Eng Try.prog S}






/-- Slot i may ring at this time. -/
def Rdy (st due : Nat → Int) (now : Int) (i : Nat) : Prop := (st i).tmod 4 = 2 ∧ due i ≤ now
/-- Of the slots below n that may ring, m is the one that rings next: the least due; of several the first. -/
def Nxt (st due : Nat → Int) (now : Int) (n m : Nat) : Prop := m < n ∧ Rdy st due now m ∧ (∀ j, j < n → Rdy st due now j → due m ≤ due j) ∧ ∀ j, j < m → Rdy st due now j → due m < due j
/-- What 'look' has found below n. -/
def Fnd (st due : Nat → Int) (now : Int) (n : Nat) : Option Nat → Prop
  | none => ∀ j, j < n → ¬ Rdy st due now j
  | some m => Nxt st due now n m
def fSlot : Option Nat → Int
  | none => 0
  | some m => m
def fRing (st : Nat → Int) : Option Nat → Int
  | none => 0
  | some m => st m
def fLeast (due : Nat → Int) : Option Nat → Int
  | none => 0
  | some m => due m
theorem fnd_skip {st due : Nat → Int} {now : Int} {n : Nat} {o : Option Nat} (h : Fnd st due now n o) (hn : ¬ Rdy st due now n) : Fnd st due now (n + 1) o := by
  cases o with
  | none => exact fun j hj hr => by by_cases e : j = n; exact hn (e ▸ hr); exact h j (by omega) hr
  | some m => exact ⟨by have := h.1; omega, h.2.1, fun j hj hr => by by_cases e : j = n; exact absurd (e ▸ hr) hn; exact h.2.2.1 j (by omega) hr, h.2.2.2⟩
theorem fnd_take {st due : Nat → Int} {now : Int} {n : Nat} {o : Option Nat} (h : Fnd st due now n o) (hr : Rdy st due now n) (hl : o = none ∨ due n < fLeast due o) : Fnd st due now (n + 1) (some n) := by
  refine ⟨by omega, hr, fun j hj hrj => ?_, fun j hj hrj => ?_⟩
  · by_cases e : j = n
    · rw [e]; exact Int.le_refl _
    · cases o with
      | none => exact absurd hrj (h j (by omega))
      | some m => have h1 := h.2.2.1 j (by omega) hrj; rcases hl with hl | hl; cases hl; simp only [fLeast] at hl; omega
  · cases o with
    | none => exact absurd hrj (h j (by omega))
    | some m => have h1 := h.2.2.1 j (by omega) hrj; rcases hl with hl | hl; cases hl; simp only [fLeast] at hl; omega
theorem fnd_leave {st due : Nat → Int} {now : Int} {n : Nat} {m : Nat} (h : Fnd st due now n (some m)) (hl : ¬ due n < due m) : Fnd st due now (n + 1) (some m) :=
  ⟨by have := h.1; omega, h.2.1, fun j hj hr => by by_cases e : j = n; · subst e; omega
                                                   · exact h.2.2.1 j (by omega) hr, h.2.2.2⟩
/-- The world while it looks. -/
structure LkW (w u : World) (b : Nat) (now busy : Int) (st due : Nat → Int) (fs : Nat → Value) (o : Option Nat) : Prop where
  c : Clk u b now busy st due fs
  h : Chg (fun _ => False) w u
  r0 : u.cell? ⟨w.heap.size, 0, none⟩ = some (.int .i64 0)
  r1 : u.cell? ⟨w.heap.size, 1, none⟩ = some (.int .i64 0)
  rz : ∀ o, u.frozen? ⟨w.heap.size, o, none⟩ = false
  n0 : u.cell? ⟨w.heap.size + 1, 0, none⟩ = some (.int .i64 (fSlot o))
  n1 : u.cell? ⟨w.heap.size + 1, 1, none⟩ = some (.int .i64 (fRing st o))
  nz : ∀ o, u.frozen? ⟨w.heap.size + 1, o, none⟩ = false
theorem lkw_zero {w : World} {b : Nat} {now busy : Int} {st due : Nat → Int} {fs : Nat → Value} (hC : Clk w b now busy st due fs) :
    LkW w ((w.alloc (.cells #[.int .i64 0, .int .i64 0] 32)).alloc (.cells #[.int .i64 0, .int .i64 0] 32)) b now busy st due fs none := by
  obtain ⟨a0, a1, az⟩ := two_alloc w (.int .i64 0) (.int .i64 0) 32
  obtain ⟨b0, b1, bz⟩ := two_alloc (w.alloc (.cells #[.int .i64 0, .int .i64 0] 32)) (.int .i64 0) (.int .i64 0) 32
  rw [World.size_alloc] at b0 b1 bz
  have hk : Chg (fun _ => False) (w.alloc (.cells #[.int .i64 0, .int .i64 0] 32)) ((w.alloc (.cells #[.int .i64 0, .int .i64 0] 32)).alloc (.cells #[.int .i64 0, .int .i64 0] 32)) := (Chg.refl _ _).alloc _
  have hk0 : Chg (fun _ => False) w ((w.alloc (.cells #[.int .i64 0, .int .i64 0] 32)).alloc (.cells #[.int .i64 0, .int .i64 0] 32)) := ((Chg.refl _ w).alloc _).alloc _
  exact ⟨hC.kept hk0 (fun _ _ x => x), hk0, hk.cell_is a0 (fun x => x), hk.cell_is a1 (fun x => x), fun o => by rw [hk.frozen (by simp) (fun x => x)]; exact az o, b0, b1, bz⟩
theorem LkW.put {w u : World} {b : Nat} {now busy : Int} {st due : Nat → Int} {fs : Nat → Value} {o : Option Nat} (h : LkW w u b now busy st due fs o) (hb : b + 35 ≤ w.heap.size) (m : Nat) :
    LkW w ((u.setCell ⟨w.heap.size + 1, 0, none⟩ (.int .i64 m)).setCell ⟨w.heap.size + 1, 0 + 1, none⟩ (.int .i64 (st m))) b now busy st due fs (some m) := by
  have oth : ∀ o, ((u.setCell ⟨w.heap.size + 1, 0, none⟩ (.int .i64 m)).setCell ⟨w.heap.size + 1, 0 + 1, none⟩ (.int .i64 (st m))).cell? ⟨w.heap.size, o, none⟩ = u.cell? ⟨w.heap.size, o, none⟩ := fun o => by
    rw [World.cell?_setCell_other _ _ _ _ (fun e => by have := congrArg Addr.block e; simp at this), World.cell?_setCell_other _ _ _ _ (fun e => by have := congrArg Addr.block e; simp at this)]
  refine ⟨(h.c.other _ (fun x => by have := x.2; simp at this; omega)).other _ (fun x => by have := x.2; simp at this; omega), (h.h.setCell _ (.inr (by simp))).setCell _ (.inr (by simp)), (oth 0).trans h.r0, (oth 1).trans h.r1, fun o => by rw [World.frozen?_setCell, World.frozen?_setCell]; exact h.rz o, ?_, ?_, fun o => by rw [World.frozen?_setCell, World.frozen?_setCell]; exact h.nz o⟩
  · rw [World.cell?_setCell_other _ _ _ _ (by simp)]; exact at_of h.n0
  · exact at_of (by rw [World.cell?_setCell_other _ _ _ _ (by simp)]; exact h.n1)
theorem look_is {σ : S} {w : World} {b : Nat} {now busy : Int} {st due : Nat → Int} {fs : Nat → Value} (t : Int) (hL : Lone E σ) (hC : Clk w b now busy st due fs) :
    CallR E 127 #[.pointer (some ⟨b + 2, 0, none⟩), .pointer none, .int .i64 t] σ w (fun σ' v w' => σ' = σ ∧ ∃ o, Fnd st due t 16 o ∧ v = .tuple #[.agg #[.int .i64 (fSlot o), .int .i64 (fRing st o)], .bool o.isSome] ∧ Chg (fun _ => False) w w') := by
  have hs := hL.no
  refine callR_of Try.func127 (by kernel_rfl) rfl ?_; simp only [Try.ntmps127, List.size_toArray, List.length_cons, List.length_nil, Nat.reduceAdd, Nat.reduceSub, Array.replicate_succ, Array.replicate_zero, List.push_toArray, List.append_toArray, List.nil_append, List.cons_append]
  repeat (first | (first | refine codeY_seq ?_ | refine codeY_block ?_ | refine codeY_ret ?_ | refine codeY_skip ?_ | refine codeY_exit ?_ | refine codeY_label ?_ | refine thenY_n ?_ | refine thenY_e ?_ | refine thenY_r ?_ | refine blockY_n ?_ | refine blockY_e ?_ | refine blockY_r ?_ | refine blockY_o rfl ?_ | refine codeY_condT rfl ?_ | refine codeY_condF rfl ?_) | (refine codeY_region_k (fun K hK => ?_); simp only [List.size_toArray, List.length_cons, List.length_nil, Nat.reduceAdd, Nat.zero_add, List.range, List.range.loop]) | (refine opsY_nil ?_; refine hK _ _ _ _ ?_; clear hK K) | (first | (first | (refine opsY_move rfl rfl ?_; walk_nrm) | (refine opsY_assign rfl rfl ?_; walk_nrm)) | (refine opsY_unwanted rfl rfl ?_; walk_nrm) | (refine opsY_nw rfl rfl (nw_of (by rfl)) (fun Ky hKy => ?_); go_simp; refine hKy _ _ ⟨rfl, fun Kx => ?_⟩; clear Kx hKy Ky)))
  have hlt35 := (hC.due 15 (by omega)).lt
  have hW := lkw_zero hC
  revert hW
  generalize (w.alloc (.cells #[.int .i64 0, .int .i64 0] 32)).alloc (.cells #[.int .i64 0, .int .i64 0] 32) = w1
  intro hW
  refine codeY_loop (fun s a u => s = σ ∧ ∃ (n : Nat) (o : Option Nat), n ≤ 16 ∧ Fnd st due t n o ∧ LkW w u b now busy st due fs o ∧ ∃ jk : Nat → Value, a = (⟨#[.pointer (some ⟨b + 2, 0, none⟩), .pointer none, .int .i64 t, jk 3, jk 4, jk 5, .pointer (some ⟨w.heap.size, 0, none⟩), jk 7, .pointer (some ⟨w.heap.size + 1, 0, none⟩), .int .i64 (fLeast due o), .bool o.isSome, jk 11, jk 12, jk 13, .int .i64 n, jk 15, jk 16, jk 17, jk 18, jk 19, jk 20, jk 21, jk 22, jk 23, jk 24, jk 25, jk 26, jk 27, jk 28, jk 29, jk 30, jk 31, jk 32, jk 33, jk 34, jk 35, jk 36, jk 37, jk 38, jk 39, jk 40, jk 41, jk 42, jk 43, jk 44, jk 45, jk 46, jk 47, jk 48, jk 49, jk 50, jk 51, jk 52, jk 53, jk 54, jk 55, jk 56], []⟩ : Act)) (fun _ a _ => match a.tmps.getD 14 undef with | .int _ x => (16 - x).toNat | _ => 0) ⟨rfl, 0, none, by omega, fun j hj => by omega, hW, junk_intro _ rfl⟩ ?_
  rintro σ' a' u ⟨rfl, n, o, hn, hF, hU, jk, rfl⟩
  by_cases hlt : (n : Int) < 16
  · have hn0 : (0 : Int) ≤ n := by omega
    have hwn := wrap64 (x := (n : Int) + 1) (by omega) (by omega)
    have hst := hU.c.cst n (by omega)
    have hdu := hU.c.cdue n (by omega)
    have hld := hU.c.st n (by omega)
    have hldu := hU.c.due n (by omega)
    repeat (first | (first | refine codeY_seq ?_ | refine codeY_block ?_ | refine codeY_ret ?_ | refine codeY_skip ?_ | refine codeY_exit ?_ | refine codeY_label ?_ | refine thenY_n ?_ | refine thenY_e ?_ | refine thenY_r ?_ | refine blockY_n ?_ | refine blockY_e ?_ | refine blockY_r ?_ | refine blockY_o rfl ?_ | refine codeY_condT rfl ?_ | refine codeY_condF rfl ?_) | (refine codeY_region_k (fun K hK => ?_); simp only [List.size_toArray, List.length_cons, List.length_nil, Nat.reduceAdd, Nat.zero_add, List.range, List.range.loop]) | (refine opsY_nil ?_; refine hK _ _ _ _ ?_; clear hK K) | (first | (first | (refine opsY_move rfl rfl ?_; walk_nrm) | (refine opsY_assign rfl rfl ?_; walk_nrm)) | (refine opsY_unwanted rfl rfl ?_; walk_nrm) | (refine opsY_nw rfl rfl (nw_of (by rfl)) (fun Ky hKy => ?_); go_simp; refine hKy _ _ ⟨rfl, fun Kx => ?_⟩; clear Kx hKy Ky)))
    (refine opsY_callTo (load_nil hld) rfl rfl rfl (by first | rfl | (simp [Act.eval]; done) | (simp [Act.eval]; rfl) | (simp [Act.eval]; exact ⟨rfl, rfl⟩)) ?_; walk_nrm)
    by_cases h2 : (st n).tmod 4 = 2
    · have h2' : ((st n).tmod 4 != 2) = false := by simpa using h2
      repeat (first | (first | refine codeY_seq ?_ | refine codeY_block ?_ | refine codeY_ret ?_ | refine codeY_skip ?_ | refine codeY_exit ?_ | refine codeY_label ?_ | refine thenY_n ?_ | refine thenY_e ?_ | refine thenY_r ?_ | refine blockY_n ?_ | refine blockY_e ?_ | refine blockY_r ?_ | refine blockY_o rfl ?_ | refine codeY_condT rfl ?_ | refine codeY_condF rfl ?_) | (refine codeY_region_k (fun K hK => ?_); simp only [List.size_toArray, List.length_cons, List.length_nil, Nat.reduceAdd, Nat.zero_add, List.range, List.range.loop]) | (refine opsY_nil ?_; refine hK _ _ _ _ ?_; clear hK K) | (first | (first | (refine opsY_move rfl rfl ?_; walk_nrm) | (refine opsY_assign rfl rfl ?_; walk_nrm)) | (refine opsY_unwanted rfl rfl ?_; walk_nrm) | (refine opsY_nw rfl rfl (nw_of (by rfl)) (fun Ky hKy => ?_); go_simp; refine hKy _ _ ⟨rfl, fun Kx => ?_⟩; clear Kx hKy Ky)))
      (refine opsY_callTo (load_nil hldu) rfl rfl rfl (by first | rfl | (simp [Act.eval]; done) | (simp [Act.eval]; rfl) | (simp [Act.eval]; exact ⟨rfl, rfl⟩)) ?_; walk_nrm)
      by_cases h3 : due n ≤ t
      · cases o with
        | none =>
          repeat (first | (first | refine codeY_seq ?_ | refine codeY_block ?_ | refine codeY_ret ?_ | refine codeY_skip ?_ | refine codeY_exit ?_ | refine codeY_label ?_ | refine thenY_n ?_ | refine thenY_e ?_ | refine thenY_r ?_ | refine blockY_n ?_ | refine blockY_e ?_ | refine blockY_r ?_ | refine blockY_o rfl ?_ | refine codeY_condT rfl ?_ | refine codeY_condF rfl ?_) | (refine codeY_region_k (fun K hK => ?_); simp only [List.size_toArray, List.length_cons, List.length_nil, Nat.reduceAdd, Nat.zero_add, List.range, List.range.loop]) | (refine opsY_nil ?_; refine hK _ _ _ _ ?_; clear hK K) | (first | (first | (refine opsY_move rfl rfl ?_; walk_nrm) | (refine opsY_assign rfl rfl ?_; walk_nrm)) | (refine opsY_unwanted rfl rfl ?_; walk_nrm) | (refine opsY_nw rfl rfl (nw_of (by rfl)) (fun Ky hKy => ?_); go_simp; refine hKy _ _ ⟨rfl, fun Kx => ?_⟩; clear Kx hKy Ky)))
          (refine opsY_store2 rfl rfl rfl rfl (by kernel_rfl) rfl rfl hU.n0 hU.n1 hU.nz (fun o => hs _) ?_; walk_nrm)
          have hP := hU.put (by omega) n
          revert hP
          generalize (World.setCell (World.setCell _ _ _) _ _) = u2
          intro hP
          repeat (first | (first | refine codeY_seq ?_ | refine codeY_block ?_ | refine codeY_ret ?_ | refine codeY_skip ?_ | refine codeY_exit ?_ | refine codeY_label ?_ | refine thenY_n ?_ | refine thenY_e ?_ | refine thenY_r ?_ | refine blockY_n ?_ | refine blockY_e ?_ | refine blockY_r ?_ | refine blockY_o rfl ?_ | refine codeY_condT rfl ?_ | refine codeY_condF rfl ?_) | (refine codeY_region_k (fun K hK => ?_); simp only [List.size_toArray, List.length_cons, List.length_nil, Nat.reduceAdd, Nat.zero_add, List.range, List.range.loop]) | (refine opsY_nil ?_; refine hK _ _ _ _ ?_; clear hK K) | (first | (first | (refine opsY_move rfl rfl ?_; walk_nrm) | (refine opsY_assign rfl rfl ?_; walk_nrm)) | (refine opsY_unwanted rfl rfl ?_; walk_nrm) | (refine opsY_nw rfl rfl (nw_of (by rfl)) (fun Ky hKy => ?_); go_simp; refine hKy _ _ ⟨rfl, fun Kx => ?_⟩; clear Kx hKy Ky)))
          refine ⟨⟨rfl, n + 1, some n, by omega, fnd_take hF ⟨h2, h3⟩ (.inl rfl), hP, junk_intro _ rfl⟩, ?_⟩
          show (16 - ((n : Int) + 1)).toNat < (16 - (n : Int)).toNat
          omega
        | some m =>
          by_cases h4 : due n < due m
          · have h4' : due n < fLeast due (some m) := h4
            repeat (first | (first | refine codeY_seq ?_ | refine codeY_block ?_ | refine codeY_ret ?_ | refine codeY_skip ?_ | refine codeY_exit ?_ | refine codeY_label ?_ | refine thenY_n ?_ | refine thenY_e ?_ | refine thenY_r ?_ | refine blockY_n ?_ | refine blockY_e ?_ | refine blockY_r ?_ | refine blockY_o rfl ?_ | refine codeY_condT rfl ?_ | refine codeY_condF rfl ?_) | (refine codeY_region_k (fun K hK => ?_); simp only [List.size_toArray, List.length_cons, List.length_nil, Nat.reduceAdd, Nat.zero_add, List.range, List.range.loop]) | (refine opsY_nil ?_; refine hK _ _ _ _ ?_; clear hK K) | (first | (first | (refine opsY_move rfl rfl ?_; walk_nrm) | (refine opsY_assign rfl rfl ?_; walk_nrm)) | (refine opsY_unwanted rfl rfl ?_; walk_nrm) | (refine opsY_nw rfl rfl (nw_of (by rfl)) (fun Ky hKy => ?_); go_simp; refine hKy _ _ ⟨rfl, fun Kx => ?_⟩; clear Kx hKy Ky)))
            (refine opsY_store2 rfl rfl rfl rfl (by kernel_rfl) rfl rfl hU.n0 hU.n1 hU.nz (fun o => hs _) ?_; walk_nrm)
            have hP := hU.put (by omega) n
            revert hP
            generalize (World.setCell (World.setCell _ _ _) _ _) = u2
            intro hP
            repeat (first | (first | refine codeY_seq ?_ | refine codeY_block ?_ | refine codeY_ret ?_ | refine codeY_skip ?_ | refine codeY_exit ?_ | refine codeY_label ?_ | refine thenY_n ?_ | refine thenY_e ?_ | refine thenY_r ?_ | refine blockY_n ?_ | refine blockY_e ?_ | refine blockY_r ?_ | refine blockY_o rfl ?_ | refine codeY_condT rfl ?_ | refine codeY_condF rfl ?_) | (refine codeY_region_k (fun K hK => ?_); simp only [List.size_toArray, List.length_cons, List.length_nil, Nat.reduceAdd, Nat.zero_add, List.range, List.range.loop]) | (refine opsY_nil ?_; refine hK _ _ _ _ ?_; clear hK K) | (first | (first | (refine opsY_move rfl rfl ?_; walk_nrm) | (refine opsY_assign rfl rfl ?_; walk_nrm)) | (refine opsY_unwanted rfl rfl ?_; walk_nrm) | (refine opsY_nw rfl rfl (nw_of (by rfl)) (fun Ky hKy => ?_); go_simp; refine hKy _ _ ⟨rfl, fun Kx => ?_⟩; clear Kx hKy Ky)))
            refine ⟨⟨rfl, n + 1, some n, by omega, fnd_take hF ⟨h2, h3⟩ (.inr h4'), hP, junk_intro _ rfl⟩, ?_⟩
            show (16 - ((n : Int) + 1)).toNat < (16 - (n : Int)).toNat
            omega
          · have h4' : ¬ due n < fLeast due (some m) := h4
            repeat (first | (first | refine codeY_seq ?_ | refine codeY_block ?_ | refine codeY_ret ?_ | refine codeY_skip ?_ | refine codeY_exit ?_ | refine codeY_label ?_ | refine thenY_n ?_ | refine thenY_e ?_ | refine thenY_r ?_ | refine blockY_n ?_ | refine blockY_e ?_ | refine blockY_r ?_ | refine blockY_o rfl ?_ | refine codeY_condT rfl ?_ | refine codeY_condF rfl ?_) | (refine codeY_region_k (fun K hK => ?_); simp only [List.size_toArray, List.length_cons, List.length_nil, Nat.reduceAdd, Nat.zero_add, List.range, List.range.loop]) | (refine opsY_nil ?_; refine hK _ _ _ _ ?_; clear hK K) | (first | (first | (refine opsY_move rfl rfl ?_; walk_nrm) | (refine opsY_assign rfl rfl ?_; walk_nrm)) | (refine opsY_unwanted rfl rfl ?_; walk_nrm) | (refine opsY_nw rfl rfl (nw_of (by rfl)) (fun Ky hKy => ?_); go_simp; refine hKy _ _ ⟨rfl, fun Kx => ?_⟩; clear Kx hKy Ky)))
            refine ⟨⟨rfl, n + 1, some m, by omega, fnd_leave hF h4, hU, junk_intro _ rfl⟩, ?_⟩
            show (16 - ((n : Int) + 1)).toNat < (16 - (n : Int)).toNat
            omega
      · repeat (first | (first | refine codeY_seq ?_ | refine codeY_block ?_ | refine codeY_ret ?_ | refine codeY_skip ?_ | refine codeY_exit ?_ | refine codeY_label ?_ | refine thenY_n ?_ | refine thenY_e ?_ | refine thenY_r ?_ | refine blockY_n ?_ | refine blockY_e ?_ | refine blockY_r ?_ | refine blockY_o rfl ?_ | refine codeY_condT rfl ?_ | refine codeY_condF rfl ?_) | (refine codeY_region_k (fun K hK => ?_); simp only [List.size_toArray, List.length_cons, List.length_nil, Nat.reduceAdd, Nat.zero_add, List.range, List.range.loop]) | (refine opsY_nil ?_; refine hK _ _ _ _ ?_; clear hK K) | (first | (first | (refine opsY_move rfl rfl ?_; walk_nrm) | (refine opsY_assign rfl rfl ?_; walk_nrm)) | (refine opsY_unwanted rfl rfl ?_; walk_nrm) | (refine opsY_nw rfl rfl (nw_of (by rfl)) (fun Ky hKy => ?_); go_simp; refine hKy _ _ ⟨rfl, fun Kx => ?_⟩; clear Kx hKy Ky)))
        refine ⟨⟨rfl, n + 1, o, by omega, fnd_skip hF (fun hr => h3 hr.2), hU, junk_intro _ rfl⟩, ?_⟩
        show (16 - ((n : Int) + 1)).toNat < (16 - (n : Int)).toNat
        omega
    · have h2' : ((st n).tmod 4 != 2) = true := by simpa using h2
      repeat (first | (first | refine codeY_seq ?_ | refine codeY_block ?_ | refine codeY_ret ?_ | refine codeY_skip ?_ | refine codeY_exit ?_ | refine codeY_label ?_ | refine thenY_n ?_ | refine thenY_e ?_ | refine thenY_r ?_ | refine blockY_n ?_ | refine blockY_e ?_ | refine blockY_r ?_ | refine blockY_o rfl ?_ | refine codeY_condT rfl ?_ | refine codeY_condF rfl ?_) | (refine codeY_region_k (fun K hK => ?_); simp only [List.size_toArray, List.length_cons, List.length_nil, Nat.reduceAdd, Nat.zero_add, List.range, List.range.loop]) | (refine opsY_nil ?_; refine hK _ _ _ _ ?_; clear hK K) | (first | (first | (refine opsY_move rfl rfl ?_; walk_nrm) | (refine opsY_assign rfl rfl ?_; walk_nrm)) | (refine opsY_unwanted rfl rfl ?_; walk_nrm) | (refine opsY_nw rfl rfl (nw_of (by rfl)) (fun Ky hKy => ?_); go_simp; refine hKy _ _ ⟨rfl, fun Kx => ?_⟩; clear Kx hKy Ky)))
      refine ⟨⟨rfl, n + 1, o, by omega, fnd_skip hF (fun hr => h2 hr.1), hU, junk_intro _ rfl⟩, ?_⟩
      show (16 - ((n : Int) + 1)).toNat < (16 - (n : Int)).toNat
      omega
  · have hn0 := hU.n0
    have hn1 := hU.n1
    have e : n = 16 := by omega
    subst e
    repeat (first | (first | refine codeY_seq ?_ | refine codeY_block ?_ | refine codeY_ret ?_ | refine codeY_skip ?_ | refine codeY_exit ?_ | refine codeY_label ?_ | refine thenY_n ?_ | refine thenY_e ?_ | refine thenY_r ?_ | refine blockY_n ?_ | refine blockY_e ?_ | refine blockY_r ?_ | refine blockY_o rfl ?_ | refine codeY_condT rfl ?_ | refine codeY_condF rfl ?_) | (refine codeY_region_k (fun K hK => ?_); simp only [List.size_toArray, List.length_cons, List.length_nil, Nat.reduceAdd, Nat.zero_add, List.range, List.range.loop]) | (refine opsY_nil ?_; refine hK _ _ _ _ ?_; clear hK K) | (first | (first | (refine opsY_move rfl rfl ?_; walk_nrm) | (refine opsY_assign rfl rfl ?_; walk_nrm)) | (refine opsY_unwanted rfl rfl ?_; walk_nrm) | (refine opsY_nw rfl rfl (nw_of (by rfl)) (fun Ky hKy => ?_); go_simp; refine hKy _ _ ⟨rfl, fun Kx => ?_⟩; clear Kx hKy Ky)))
    (refine opsY_store2 rfl rfl rfl rfl (by kernel_rfl) rfl rfl hU.r0 hU.r1 hU.rz (fun o => hs _) ?_; walk_nrm)
    have f0 : ((u.setCell ⟨w.heap.size, 0, none⟩ (.int .i64 (fSlot o))).setCell ⟨w.heap.size, 0 + 1, none⟩ (.int .i64 (fRing st o))).cell? ⟨w.heap.size, 0, none⟩ = some (.int .i64 (fSlot o)) := by rw [World.cell?_setCell_other _ _ _ _ (by simp)]; exact at_of hU.r0
    have f1 : ((u.setCell ⟨w.heap.size, 0, none⟩ (.int .i64 (fSlot o))).setCell ⟨w.heap.size, 0 + 1, none⟩ (.int .i64 (fRing st o))).cell? ⟨w.heap.size, 1, none⟩ = some (.int .i64 (fRing st o)) := at_of (by rw [World.cell?_setCell_other _ _ _ _ (by simp)]; exact hU.r1)
    have hc6 := (hU.h.setCell (a := ⟨w.heap.size, 0, none⟩) (.int .i64 (fSlot o)) (.inr (by simp))).setCell (a := ⟨w.heap.size, 0 + 1, none⟩) (.int .i64 (fRing st o)) (.inr (by simp))
    revert f0 f1 hc6
    generalize (World.setCell (World.setCell _ _ _) _ _) = u6
    intro f0 f1 hc6
    repeat (first | (first | refine codeY_seq ?_ | refine codeY_block ?_ | refine codeY_ret ?_ | refine codeY_skip ?_ | refine codeY_exit ?_ | refine codeY_label ?_ | refine thenY_n ?_ | refine thenY_e ?_ | refine thenY_r ?_ | refine blockY_n ?_ | refine blockY_e ?_ | refine blockY_r ?_ | refine blockY_o rfl ?_ | refine codeY_condT rfl ?_ | refine codeY_condF rfl ?_) | (refine codeY_region_k (fun K hK => ?_); simp only [List.size_toArray, List.length_cons, List.length_nil, Nat.reduceAdd, Nat.zero_add, List.range, List.range.loop]) | (refine opsY_nil ?_; refine hK _ _ _ _ ?_; clear hK K) | (first | (first | (refine opsY_move rfl rfl ?_; walk_nrm) | (refine opsY_assign rfl rfl ?_; walk_nrm)) | (refine opsY_unwanted rfl rfl ?_; walk_nrm) | (refine opsY_nw rfl rfl (nw_of (by rfl)) (fun Ky hKy => ?_); go_simp; refine hKy _ _ ⟨rfl, fun Kx => ?_⟩; clear Kx hKy Ky)))
    (first | refine bodyY_ret rfl (results_ct Try.results127 rfl (by go_simp; try rfl) (by go_simp; try rfl) f0 f1) ?_ | refine bodyY_end rfl (results_ct Try.results127 rfl (by go_simp; try rfl) (by go_simp; try rfl) f0 f1) ?_)
    exact ⟨rfl, o, hF, rfl, hc6⟩
end Go.Proofs.Ythnfheohfnhcpaa.Y
