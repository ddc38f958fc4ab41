/- The levels that age: put and take, one after the other. -/
import Derived.Test.YthnfheohfnhcpaaPrn
import Derived.Test.YthnfheohfnhcpaaPrc
import Derived.Test.YthnfheohfnhcpaaPre
set_option linter.unusedSimpArgs false
set_option linter.unusedVariables false
set_option maxRecDepth 20000
set_option maxHeartbeats 4000000
namespace Go.Proofs.Ythnfheohfnhcpaa.Y
open Go Go.Conc Go.Proofs
variable {S : Type} {E : Eng Try.prog S}

theorem PA.cin_ne (A : PA) {i j a b : Nat} (h : i ≠ j) (ha : a < 2 + 3 * A.room) (hb : b < 2 + 3 * A.room) : A.cin i + a ≠ A.cin j + b := by
  unfold PA.cin
  rcases Nat.lt_or_gt_of_ne h with x | x
  · have : (i + 1) * (2 + 3 * A.room) ≤ j * (2 + 3 * A.room) := Nat.mul_le_mul_right _ x
    rw [Nat.succ_mul] at this; omega
  · have : (j + 1) * (2 + 3 * A.room) ≤ i * (2 + 3 * A.room) := Nat.mul_le_mul_right _ x
    rw [Nat.succ_mul] at this; omega
theorem mod_ne {o r a b : Nat} (h1 : o ≤ a) (h2 : a < b) (h3 : b < o + r) : a % r ≠ b % r := fun e => by
  have h := Nat.sub_mod_eq_zero_of_mod_eq e.symm
  have : (b - a) % r = b - a := Nat.mod_eq_of_lt (by omega)
  omega
/-- A level's cells: what lies there from o up to n. -/
structure Lvl (A : PA) (i : Nat) (val : Nat → Int) (o n : Nat) (tk th : Nat → Int) : Prop where
  inn : val (A.cin i) = n
  out : val (A.cin i + 1) = o
  le : o ≤ n
  rm : n ≤ o + A.room
  full : ∀ q, o ≤ q → q < n → val (A.cin i + 2 + q % A.room * 3) = (q : Int) + 1 ∧ val (A.cin i + 2 + (q % A.room * 3 + 1)) = tk q ∧ val (A.cin i + 2 + (q % A.room * 3 + 2)) = th q
  free : ∀ q, n ≤ q → q < o + A.room → val (A.cin i + 2 + q % A.room * 3) = (q : Int)
theorem Lvl.congr {A : PA} {i : Nat} {val val' : Nat → Int} {o n : Nat} {tk th : Nat → Int} (h : Lvl A i val o n tk th) (hr : 0 < A.room) (hv : ∀ c, c < 2 + 3 * A.room → val' (A.cin i + c) = val (A.cin i + c)) : Lvl A i val' o n tk th := by
  have hm : ∀ q, q % A.room < A.room := fun q => Nat.mod_lt _ hr
  have hv' : ∀ c, c < 3 * A.room → val' (A.cin i + 2 + c) = val (A.cin i + 2 + c) := fun c hc => by
    have := hv (2 + c) (by omega)
    rwa [← Nat.add_assoc] at this
  refine ⟨(hv 0 (by omega)).trans h.inn, (hv 1 (by omega)).trans h.out, h.le, h.rm, fun q h1 h2 => ?_, fun q h1 h2 => ?_⟩
  · have := hm q
    rw [hv' _ (by omega), hv' _ (by omega), hv' _ (by omega)]; exact h.full q h1 h2
  · have := hm q
    rw [hv' _ (by omega)]; exact h.free q h1 h2
/-- The levels' cells, and how many tickets went. -/
structure Pq (A : PA) (val : Nat → Int) (T : Nat) (o n : Nat → Nat) (tk th : Nat → Nat → Int) : Prop where
  tick : val 0 = T
  lvl : ∀ i, i < A.L → Lvl A i val (o i) (n i) (tk i) (th i)
  tks : ∀ i q, 0 ≤ tk i q ∧ tk i q ≤ 1000000
  nT : ∀ i, n i ≤ T
  T1 : T ≤ 1000000
/-- So it stands at one's own state. -/
def At (A : PA) (σ : S) (w : World) (val : Nat → Int) (s : S) (u : World) : Prop := s = σ ∧ Chg (InN A.cb A.N) w u ∧ PW u A val
theorem At.set {A : PA} {σ : S} {w : World} {val : Nat → Int} {s : S} {u : World} (h : At A σ w val s u) {k : Nat} (hk : k < A.N) (x : Int) : At A σ w (upd1 val k x) s (u.setCell ⟨A.cb k, 0, none⟩ (.int .i64 x)) :=
  ⟨h.1, h.2.1.setCell (a := ⟨A.cb k, 0, none⟩) _ (.inl ⟨k, hk, rfl⟩), h.2.2.set hk x⟩
def AndMod (room : Nat) : Prop := ∀ q : Nat, (q : Int) < 4611686018427387904 → Go.bits .and .i64 (q : Int) ((room : Int) - 1) = ((q % room : Nat) : Int)
theorem pos_of {A : PA} (hM : AndMod A.room) (hr : 0 < A.room) {q : Nat} (hq : q ≤ 1000000) : Pos A (q : Int) (q % A.room) := ⟨by omega, by omega, Nat.mod_lt _ hr, hM q (by omega)⟩
abbrev noPan : S → List PanicEntry → World → Prop := fun _ _ _ => False
theorem seq_put {A : PA} {σ : S} {w : World} (hL : Lone E σ) {val : Nat → Int} {T : Nat} {o n : Nat → Nat} {tk th : Nat → Nat → Int} {i : Nat} {x : Int} (hM : AndMod A.room) (hP : Pq A val T o n tk th) (hw : PW w A val) (hi : i < A.L) (hn : n i < o i + A.room) (hT : T < 1000000) :
    CallR E 36 #[.pointer (some ⟨A.p, 0, none⟩), .pointer none, .int .i64 i, .int .i64 x] σ w (fun s v u => v = .int .i64 0 ∧ s = σ ∧ Chg (InN A.cb A.N) w u ∧ ∃ val', PW u A val' ∧ Pq A val' (T + 1) o (upd1 n i (n i + 1)) (upd1 tk i (upd1 (tk i) (n i) ((T : Int) + 1))) (upd1 th i (upd1 (th i) (n i) x))) := by
  have hmay := hL.may
  have hs := hL.no
  have hr0 : 0 < A.room := by have := hw.r0; omega
  have hr1 := hw.r1
  have hl := hP.lvl i hi
  have hkr : n i % A.room < A.room := Nat.mod_lt _ hr0
  have hnT := hP.nT i
  have hpos := pos_of (A := A) hM hr0 (q := n i) (by have := hP.T1; omega)
  have k0 : 0 < A.N := by unfold PA.N; omega
  have k1 := A.cin_lt hi (j := 0) (by omega)
  have k2 : ∀ c, c < 3 * A.room → A.cin i + 2 + c < A.N := fun c hc => by have := A.cin_lt hi (j := 2 + c) (by omega); omega
  have c0 : A.cin i ≠ 0 := by unfold PA.cin; omega
  refine CallP.r ?_
  refine put_walk (A := A) (i := i) (x := x) hi hr1 (I0 := At A σ w val) (J1 := fun p k s u => p = n i ∧ k = n i % A.room ∧ At A σ w (upd1 val (A.cin i) ((n i : Int) + 1)) s u)
    (J2 := fun p k t s u => p = n i ∧ k = n i % A.room ∧ t = (T : Int) + 1 ∧ At A σ w (upd1 (upd1 val (A.cin i) ((n i : Int) + 1)) 0 ((T : Int) + 1)) s u)
    (J3 := fun p k s u => p = n i ∧ k = n i % A.room ∧ At A σ w (upd1 (upd1 (upd1 val (A.cin i) ((n i : Int) + 1)) 0 ((T : Int) + 1)) (A.cin i + 2 + (n i % A.room * 3 + 1)) ((T : Int) + 1)) s u)
    (J4 := fun p k s u => p = n i ∧ k = n i % A.room ∧ At A σ w (upd1 (upd1 (upd1 (upd1 val (A.cin i) ((n i : Int) + 1)) 0 ((T : Int) + 1)) (A.cin i + 2 + (n i % A.room * 3 + 1)) ((T : Int) + 1)) (A.cin i + 2 + (n i % A.room * 3 + 2)) x) s u)
    (fun _ _ h => h.2.2.m) (fun _ _ _ _ h => ⟨h.2.2.2.2.m, by rw [h.1, h.2.1]; exact hpos⟩) (fun _ _ _ _ _ h => ⟨h.2.2.2.2.2.m, by rw [h.1, h.2.1]; exact hpos⟩) (fun _ _ _ _ h => ⟨h.2.2.2.2.m, by rw [h.1, h.2.1]; exact hpos⟩) (fun _ _ _ _ h => ⟨h.2.2.2.2.m, by rw [h.1, h.2.1]; exact hpos⟩)
    ?_ ?_ ?_ ?_ ?_ σ w ⟨rfl, Chg.refl _ _, hw⟩
  · intro s u h
    refine claim_walk (A := A) (i := i) hi hr1 (fun _ _ => 0) (I0 := At A σ w val) (I1 := fun _ p k s u => p = n i ∧ k = n i % A.room ∧ At A σ w val s u) (I2 := fun _ p k s u => p = n i ∧ k = n i % A.room ∧ At A σ w val s u)
      (fun _ _ h => h.2.2.m) (fun _ _ _ _ _ h => ⟨h.2.2.2.2.m, by rw [h.1, h.2.1]; exact hpos⟩) (fun _ _ _ _ _ h => ⟨h.2.2.2.2.m, by rw [h.1, h.2.1]; exact hpos⟩) ?_ ?_ ?_ s u h
    · intro s u h
      have hc := h.2.2.n.cell _ k1
      rw [Nat.add_zero, hl.inn] at hc
      exact (load_nil hc).p ⟨_, _, rfl, rfl, rfl, h⟩
    · rintro m p k s u ⟨rfl, rfl, h⟩
      have hc := h.2.2.n.cell _ (k2 (n i % A.room * 3) (by omega))
      rw [hl.free (n i) (Nat.le_refl _) hn] at hc
      exact (load_nil hc).p ⟨_, rfl, by omega, by omega, fun x => by omega, fun _ => ⟨rfl, rfl, h⟩, fun x => by omega, h.2.2.m⟩
    · rintro m p k s u ⟨rfl, rfl, h⟩
      have hc := h.2.2.n.cell _ k1
      rw [Nat.add_zero, hl.inn] at hc
      have hse := h.1
      refine (cashit_nil ((n i : Int) + 1) (by rw [hse]; exact hmay) hc (by rw [hse]; exact fun o => hs _)).p (.inl ⟨rfl, .inr ⟨n i, n i % A.room, rfl, rfl, rfl, h.set (by simpa using k1) _⟩⟩)
  · rintro p k s u ⟨rfl, rfl, h⟩
    have hc := h.2.2.n.cell _ k0
    rw [upd1_ne _ _ (Ne.symm c0), hP.tick] at hc
    have hse := h.1
    have hw' := wrap64 (x := (T : Int) + 1) (by omega) (by omega)
    have := add_nil (E := E) (σ := s) 1 (by rw [hse]; exact hmay) hc (by rw [hse]; exact fun o => hs _)
    rw [hw'] at this
    exact this.p ⟨_, rfl, rfl, rfl, rfl, h.set k0 _⟩
  · rintro p k t s u ⟨rfl, rfl, rfl, h⟩
    have hc := h.2.2.n.cell _ (k2 (n i % A.room * 3 + 1) (by omega))
    have hse := h.1
    exact (store_nil _ (by rw [hse]; exact hmay) hc (by rw [hse]; exact fun o => hs _)).p ⟨rfl, rfl, h.set (k2 _ (by omega)) _⟩
  · rintro p k s u ⟨rfl, rfl, h⟩
    have hc := h.2.2.n.cell _ (k2 (n i % A.room * 3 + 2) (by omega))
    have hse := h.1
    exact (store_nil _ (by rw [hse]; exact hmay) hc (by rw [hse]; exact fun o => hs _)).p ⟨rfl, rfl, h.set (k2 _ (by omega)) _⟩
  · rintro p k s u ⟨rfl, rfl, h⟩
    have hc := h.2.2.n.cell _ (k2 (n i % A.room * 3) (by omega))
    have hse := h.1
    refine (store_nil _ (by rw [hse]; exact hmay) hc (by rw [hse]; exact fun o => hs _)).p ?_
    have h' := h.set (k2 (n i % A.room * 3) (by omega)) ((n i : Int) + 1)
    refine ⟨rfl, h'.1, h'.2.1, _, h'.2.2, ?_, fun j hj => ?_, fun j q => ?_, fun j => ?_, by omega⟩
    · rw [upd1_ne _ _ (by omega), upd1_ne _ _ (by omega), upd1_ne _ _ (by omega), upd1_same]; rfl
    · by_cases e : j = i
      · subst e
        rw [upd1_same, upd1_same, upd1_same]
        have hle := hl.le
        refine ⟨?_, ?_, by omega, by omega, fun q h1 h2 => ?_, fun q h1 h2 => ?_⟩
        · rw [upd1_ne _ _ (by omega), upd1_ne _ _ (by omega), upd1_ne _ _ (by omega), upd1_ne _ _ (by omega), upd1_same]; rfl
        · rw [upd1_ne _ _ (by omega), upd1_ne _ _ (by omega), upd1_ne _ _ (by omega), upd1_ne _ _ (by omega), upd1_ne _ _ (by omega)]; exact hl.out
        · by_cases e : q = n j
          · subst e
            refine ⟨by rw [upd1_same], ?_, ?_⟩
            · rw [upd1_ne _ _ (by omega), upd1_ne _ _ (by omega), upd1_same, upd1_same]
            · rw [upd1_ne _ _ (by omega), upd1_same, upd1_same]
          · have hne := mod_ne (r := A.room) h1 (show q < n j by omega) (by omega)
            rw [upd1_ne _ _ e, upd1_ne _ _ e]
            have hf := hl.full q h1 (by omega)
            refine ⟨?_, ?_, ?_⟩
            · rw [upd1_ne _ _ (by omega), upd1_ne _ _ (by omega), upd1_ne _ _ (by omega), upd1_ne _ _ (by omega), upd1_ne _ _ (by omega)]; exact hf.1
            · rw [upd1_ne _ _ (by omega), upd1_ne _ _ (by omega), upd1_ne _ _ (by omega), upd1_ne _ _ (by omega), upd1_ne _ _ (by omega)]; exact hf.2.1
            · rw [upd1_ne _ _ (by omega), upd1_ne _ _ (by omega), upd1_ne _ _ (by omega), upd1_ne _ _ (by omega), upd1_ne _ _ (by omega)]; exact hf.2.2
        · have hne := mod_ne (r := A.room) hle (show n j < q by omega) h2
          rw [upd1_ne _ _ (by omega), upd1_ne _ _ (by omega), upd1_ne _ _ (by omega), upd1_ne _ _ (by omega), upd1_ne _ _ (by omega)]
          exact hl.free q (by omega) h2
      · rw [upd1_ne _ _ e, upd1_ne _ _ e, upd1_ne _ _ e]
        refine (hP.lvl j hj).congr hr0 (fun c hc => ?_)
        have d : ∀ b, b < 2 + 3 * A.room → A.cin j + c ≠ A.cin i + b := fun b hb => A.cin_ne e hc hb
        have d0 := d 0 (by omega)
        have d1 := d (2 + n i % A.room * 3) (by omega)
        have d2 := d (2 + (n i % A.room * 3 + 1)) (by omega)
        have d3 := d (2 + (n i % A.room * 3 + 2)) (by omega)
        have dj : A.cin j + c ≠ 0 := by unfold PA.cin; omega
        rw [upd1_ne _ _ (by omega), upd1_ne _ _ (by omega), upd1_ne _ _ (by omega), upd1_ne _ _ dj, upd1_ne _ _ (by omega)]
    · by_cases e : j = i
      · subst e
        rw [upd1_same]
        by_cases e2 : q = n j
        · subst e2; rw [upd1_same]; omega
        · rw [upd1_ne _ _ e2]; exact hP.tks j q
      · rw [upd1_ne _ _ e]; exact hP.tks j q
    · by_cases e : j = i
      · subst e; rw [upd1_same]; omega
      · rw [upd1_ne _ _ e]; have := hP.nT j; omega
/-- What the look at all heads finds. -/
def hdOf (L : Nat) (o n : Nat → Nat) (tk : Nat → Nat → Int) : Heads := fun j => if j < L ∧ o j < n j then some ((o j : Int), tk j (o j)) else none
def hdUp (L m : Nat) (o n : Nat → Nat) (tk : Nat → Nat → Int) : Heads := fun j => if m ≤ j then hdOf L o n tk j else none
theorem hdUp_step {L m : Nat} {o n : Nat → Nat} {tk : Nat → Nat → Int} (hm : m < L) (h : o m < n m) : upd1 (hdUp L (m + 1) o n tk) m (some ((o m : Int), tk m (o m))) = hdUp L m o n tk := by
  funext j
  by_cases e : j = m
  · subst e; rw [upd1_same]; unfold hdUp hdOf; rw [if_pos (Nat.le_refl _), if_pos ⟨hm, h⟩]
  · rw [upd1_ne _ _ e]; unfold hdUp
    by_cases e2 : m ≤ j
    · rw [if_pos (by omega), if_pos e2]
    · rw [if_neg (by omega), if_neg e2]
theorem hdUp_skip {L m : Nat} {o n : Nat → Nat} {tk : Nat → Nat → Int} (h : ¬ o m < n m) : hdUp L (m + 1) o n tk = hdUp L m o n tk := by
  funext j
  unfold hdUp
  by_cases e : j = m
  · subst e; rw [if_neg (by omega), if_pos (Nat.le_refl _)]; unfold hdOf; rw [if_neg (fun x => h x.2)]
  · by_cases e2 : m ≤ j
    · rw [if_pos (by omega), if_pos e2]
    · rw [if_neg (by omega), if_neg e2]
theorem hdUp_top (L : Nat) (o n : Nat → Nat) (tk : Nat → Nat → Int) : hdUp L L o n tk = fun _ => none := by
  funext j
  unfold hdUp hdOf
  by_cases e : L ≤ j
  · rw [if_pos e, if_neg (fun x => by omega)]
  · rw [if_neg e]
theorem bst_some (hd : Heads) : ∀ m (i : Nat), bst hd m = i → ∃ p t, hd i = some (p, t)
  | 0, i, h => by unfold bst at h; omega
  | m + 1, i, h => by
    unfold bst at h
    split at h
    · exact bst_some hd m i h
    · rename_i p t e
      split at h
      · have : i = m := by omega
        subst this; exact ⟨_, _, e⟩
      · exact bst_some hd m i h
/-- What is new since is one's own. -/
def Kn (σ : S) (w : World) : (Nat → Prop) → S → World → Prop := fun X s u => s = σ ∧ ∀ b, X b → w.heap.size ≤ b ∧ b < u.heap.size
theorem PW.away {w u u' : World} {A : PA} {v0 val : Nat → Int} (h0 : PW w A v0) (h : PW u A val) (c : Chg (fun b => w.heap.size ≤ b) u u') : PW u' A val := by
  have hL := h0.L0
  have hr : 0 < 3 * A.room := by have := h0.r0; omega
  refine ⟨h.m.kept c ?_ ?_ ?_ ?_, h.n.kept c (fun k hk x => by have := h0.n.lt hk; omega), h.L0, h.L1, h.r0, h.r1⟩
  · have := lt_of_cell h0.m.tk; show ¬ w.heap.size ≤ A.p; simp only at this; omega
  · have := lt_of_cell (h0.m.row 0 hL); show ¬ w.heap.size ≤ A.gl; simp only at this; omega
  · intro i hi; have := lt_of_cell (h0.m.inn i hi); show ¬ w.heap.size ≤ A.lb i; simp only at this; omega
  · intro i hi; have := lt_of_cell (h0.m.place i hi 0 hr); show ¬ w.heap.size ≤ A.gp i; simp only at this; omega
theorem at_stab {A : PA} {σ : S} {w : World} {v0 val : Nat → Int} (h0 : PW w A v0) : StabK (Kn (S := S) σ w) (At A σ w val) where
  fresh := fun o h k => ⟨k.1, fun b hb => by
    rw [World.size_alloc]
    rcases hb with hb | hb
    · have := k.2 b hb; omega
    · have := h.2.1.size; omega⟩
  low := fun k hb => (k.2 _ hb).2
  anti := fun k h => ⟨k.1, fun b hb => k.2 b (h b hb)⟩
  kset := fun a v k => ⟨k.1, fun b hb => by rw [size_setCell]; exact k.2 b hb⟩
  al := fun o h => ⟨h.1, h.2.1.alloc o, h0.away h.2.2 ((Chg.refl _ _).alloc o)⟩
  st := fun a v k h ha => ⟨h.1, h.2.1.setCell v (.inr (k.2 _ ha).1), h0.away h.2.2 ((Chg.refl _ _).setCell v (.inl (k.2 _ ha).1))⟩
theorem StabK.pure {Kp : (Nat → Prop) → S → World → Prop} {I : S → World → Prop} {p : Prop} (h : StabK Kp I) : StabK Kp (fun s u => p ∧ I s u) where
  fresh := fun o x k => h.fresh o x.2 k
  low := h.low
  anti := h.anti
  kset := h.kset
  al := fun o x => ⟨x.1, h.al o x.2⟩
  st := fun a v k x ha => ⟨x.1, h.st a v k x.2 ha⟩
theorem seq_looks {A : PA} {σ : S} {w : World} (hL : Lone E σ) {val : Nat → Int} {T : Nat} {o n : Nat → Nat} {tk th : Nat → Nat → Int} (hM : AndMod A.room) (hP : Pq A val T o n tk th) (hw : PW w A val) {u : World} (hu : At A σ w val σ u) :
    CallP E noPan 133 #[.pointer (some ⟨A.p, 0, none⟩), .pointer none] σ u (fun s' v u' => v = .tuple #[.agg ((List.range 24).map (hdV (hdOf A.L o n tk))).toArray, .int .i64 (bst (hdOf A.L o n tk) 8)] ∧ At A σ w val s' u') := by
  have hs := hL.no
  have hr0 : 0 < A.room := by have := hw.r0; omega
  have hr1 := hw.r1
  have hmx : ∀ j, o j ≤ 1000000 ∨ ¬ j < A.L := fun j => by
    by_cases hj : j < A.L
    · have := (hP.lvl j hj).le; have := hP.nT j; have := hP.T1; exact .inl (by omega)
    · exact .inr hj
  have k2 : ∀ i c, i < A.L → c < 3 * A.room → A.cin i + 2 + c < A.N := fun i c hi hc => by have := A.cin_lt hi (j := 2 + c) (by omega); omega
  have hpos : ∀ m, m < A.L → Pos A (o m : Int) (o m % A.room) := fun m hm => pos_of hM hr0 (by rcases hmx m with x | x; exact x; omega)
  have key := looks_walk (E := E) (pan := noPan) (A := A) (tv := .pointer none) hw.L1 hr1 (Kp := Kn σ w) (Il := fun m hd s u => (hd = hdUp A.L m o n tk ∧ m ≤ A.L) ∧ At A σ w val s u)
    (Ia := fun m hd p k s u => (hd = hdUp A.L (m + 1) o n tk ∧ m < A.L ∧ p = o m ∧ k = o m % A.room) ∧ At A σ w val s u)
    (Ib := fun m hd p k s u => (hd = hdUp A.L (m + 1) o n tk ∧ m < A.L ∧ p = o m ∧ k = o m % A.room ∧ o m < n m) ∧ At A σ w val s u)
    ?_ (fun m hd => (at_stab hw).pure) ?_ ?_ ?_ ?_ ?_ ?_ (fun _ => False) σ u ⟨⟨(hdUp_top _ _ _ _).symm, Nat.le_refl _⟩, hu⟩ ⟨rfl, fun b hb => hb.elim⟩
  · refine key.mono ?_
    rintro s v u' ⟨_, _, hd, rfl, ⟨rfl, _⟩, h⟩
    have : hdUp A.L 0 o n tk = hdOf A.L o n tk := by funext j; unfold hdUp; rw [if_pos (Nat.zero_le _)]
    rw [this]; exact ⟨rfl, h⟩
  · rintro X s u b o ⟨rfl, _⟩ _
    exact hs _
  · rintro m hd s u ⟨⟨rfl, hm⟩, h⟩
    refine ⟨h.2.2.m, hm, fun j p t hj => ?_⟩
    unfold hdUp hdOf at hj
    split at hj
    · split at hj
      · simp only [Option.some.injEq, Prod.mk.injEq] at hj
        have := hP.tks j (o j); rw [← hj.2]; omega
      · cases hj
    · cases hj
  · rintro m hd p k s u ⟨⟨rfl, hm, rfl, rfl⟩, h⟩
    exact ⟨h.2.2.m, hpos m hm, hm⟩
  · rintro m hd p k s u ⟨⟨rfl, hm, rfl, rfl, _⟩, h⟩
    exact ⟨h.2.2.m, hpos m hm⟩
  · rintro X m hd s u ⟨⟨rfl, hm⟩, h⟩ hk
    have hc := h.2.2.n.cell _ (A.cin_lt (i := m) (j := 1) (by omega) (by omega))
    rw [(hP.lvl m (by omega)).out] at hc
    exact (load_nil hc).p ⟨hk, fun _ _ => rfl, _, o m % A.room, rfl, ⟨rfl, by omega, rfl, rfl⟩, h⟩
  · rintro X m hd p k s u ⟨⟨rfl, hm, rfl, rfl⟩, h⟩ hk
    have hkr : o m % A.room < A.room := Nat.mod_lt _ hr0
    have hc := h.2.2.n.cell _ (k2 m (o m % A.room * 3) hm (by omega))
    have hl := hP.lvl m hm
    refine (load_nil hc).p ⟨hk, fun _ _ => rfl, _, rfl, fun hx => ⟨⟨?_, by omega⟩, h⟩, fun hx => ⟨⟨rfl, hm, rfl, rfl, ?_⟩, h⟩⟩
    · refine hdUp_skip (fun x => hx ?_)
      exact (hl.full _ (Nat.le_refl _) x).1
    · by_cases x : o m < n m
      · exact x
      · have := hl.free (o m) (by omega) (by omega)
        omega
  · rintro X m hd p k s u ⟨⟨rfl, hm, rfl, rfl, hlt⟩, h⟩ hk
    have hkr : o m % A.room < A.room := Nat.mod_lt _ hr0
    have hc := h.2.2.n.cell _ (k2 m (o m % A.room * 3 + 1) hm (by omega))
    rw [((hP.lvl m hm).full _ (Nat.le_refl _) hlt).2.1] at hc
    exact (load_nil hc).p ⟨hk, fun _ _ => rfl, _, rfl, ⟨hdUp_step hm hlt, by omega⟩, h⟩
theorem seq_take {A : PA} {σ : S} {w : World} (hL : Lone E σ) {val : Nat → Int} {T : Nat} {o n : Nat → Nat} {tk th : Nat → Nat → Int} (hM : AndMod A.room) (hP : Pq A val T o n tk th) (hw : PW w A val) :
    CallR E 37 #[.pointer (some ⟨A.p, 0, none⟩), .pointer none] σ w (fun s v u => s = σ ∧ Chg (InN A.cb A.N) w u ∧
      ((bst (hdOf A.L o n tk) 8 < 0 ∧ v = .tuple #[.int .i64 0, .int .i64 0, .bool false] ∧ PW u A val) ∨
       ∃ i : Nat, bst (hdOf A.L o n tk) 8 = i ∧ i < A.L ∧ o i < n i ∧ v = .tuple #[.int .i64 (th i (o i)), .int .i64 i, .bool true] ∧ ∃ val', PW u A val' ∧ Pq A val' T (upd1 o i (o i + 1)) n tk th)) := by
  have hmay := hL.may
  have hs := hL.no
  have hr0 : 0 < A.room := by have := hw.r0; omega
  have hr1 := hw.r1
  have k2 : ∀ i c, i < A.L → c < 3 * A.room → A.cin i + 2 + c < A.N := fun i c hi hc => by have := A.cin_lt hi (j := 2 + c) (by omega); omega
  have hpos : ∀ m, m < A.L → Pos A (o m : Int) (o m % A.room) := fun m hm => pos_of hM hr0 (by have := (hP.lvl m hm).le; have := hP.nT m; have := hP.T1; omega)
  refine CallP.r ?_
  refine take_walk (E := E) (pan := noPan) (A := A) (tv := .pointer none) hw.L1 hr1 (fun _ _ => 0) (Kp := Kn σ w) (I0 := At A σ w val) (I1 := fun _ hd s u => hd = hdOf A.L o n tk ∧ At A σ w val s u)
    (I2 := fun _ i p k s u => (bst (hdOf A.L o n tk) 8 = i ∧ i < A.L ∧ o i < n i ∧ p = o i ∧ k = o i % A.room) ∧ At A σ w val s u)
    (I3 := fun _ i p k s u => (bst (hdOf A.L o n tk) 8 = i ∧ i < A.L ∧ o i < n i ∧ p = o i ∧ k = o i % A.room) ∧ At A σ w (upd1 val (A.cin i + 1) ((o i : Int) + 1)) s u)
    (I4 := fun i p k x s u => (bst (hdOf A.L o n tk) 8 = i ∧ i < A.L ∧ o i < n i ∧ p = o i ∧ k = o i % A.room ∧ x = th i (o i)) ∧ At A σ w (upd1 val (A.cin i + 1) ((o i : Int) + 1)) s u)
    ?_ (fun s u h => ⟨h.2.2.m, h.1, fun b hb => hb.elim⟩) (fun _ _ => (at_stab hw).pure) (at_stab hw) (fun _ _ _ _ h => h.2.2.2.m) ?_ ?_ ?_ ?_ ?_ ?_ ?_ ?_ ?_ σ w ⟨rfl, Chg.refl _ _, hw⟩
  · rintro X s u b o ⟨rfl, _⟩ _
    exact hs _
  · rintro _ hd s u ⟨rfl, h⟩ hb
    exact ⟨h.1, h.2.1, .inl ⟨hb, rfl, h.2.2⟩⟩
  · rintro _ hd s u ⟨rfl, h⟩ i hi
    obtain ⟨p, t, he⟩ := bst_some _ _ _ hi
    have he' := he
    unfold hdOf at he'
    split at he'
    · rename_i hc
      simp only [Option.some.injEq, Prod.mk.injEq] at he'
      refine ⟨hc.1, o i % A.room, ?_, ⟨hi, hc.1, hc.2, ?_, rfl⟩, h⟩
      · rw [he]; show Pos A p _; rw [← he'.1]; exact hpos i hc.1
      · rw [he]; exact he'.1.symm
    · cases he'
  · rintro _ i p k s u ⟨⟨_, hi, _, rfl, rfl⟩, h⟩
    exact ⟨h.2.2.m, hpos i hi⟩
  · rintro _ i p k s u ⟨⟨_, hi, _, rfl, rfl⟩, h⟩
    exact ⟨h.2.2.m, hpos i hi⟩
  · rintro i p k x s u ⟨⟨_, hi, _, rfl, rfl, _⟩, h⟩
    exact ⟨h.2.2.m, hpos i hi⟩
  · rintro s u h
    have h' := h
    obtain ⟨rfl, _⟩ := h'
    exact (seq_looks hL hM hP hw h).mono (fun s' v u' ⟨e, h2⟩ => ⟨⟨h2.1, fun b hb => hb.elim⟩, _, e, rfl, h2⟩)
  · rintro m i p k s u ⟨⟨hb, hi, hlt, rfl, rfl⟩, h⟩
    have hc := h.2.2.n.cell _ (A.cin_lt (i := i) (j := 1) (by omega) (by omega))
    rw [(hP.lvl i hi).out] at hc
    have hse := h.1
    exact (cashit_nil ((o i : Int) + 1) (by rw [hse]; exact hmay) hc (by rw [hse]; exact fun o => hs _)).p (.inl ⟨rfl, ⟨hb, hi, hlt, rfl, rfl⟩, h.set (A.cin_lt hi (by omega)) _⟩)
  · rintro m i p k s u ⟨⟨hb, hi, hlt, rfl, rfl⟩, h⟩
    have hkr : o i % A.room < A.room := Nat.mod_lt _ hr0
    have hc := h.2.2.n.cell _ (k2 i (o i % A.room * 3 + 2) hi (by omega))
    rw [upd1_ne _ _ (by omega), ((hP.lvl i hi).full _ (Nat.le_refl _) hlt).2.2] at hc
    exact (load_nil hc).p ⟨_, rfl, ⟨hb, hi, hlt, rfl, rfl, rfl⟩, h⟩
  · rintro i p k x s u ⟨⟨hb, hi, hlt, rfl, rfl, rfl⟩, h⟩
    have hkr : o i % A.room < A.room := Nat.mod_lt _ hr0
    have hc := h.2.2.n.cell _ (k2 i (o i % A.room * 3) hi (by omega))
    have hse := h.1
    refine (store_nil _ (by rw [hse]; exact hmay) hc (by rw [hse]; exact fun o => hs _)).p ?_
    have h' := h.set (k2 i (o i % A.room * 3) hi (by omega)) ((o i : Int) + A.room)
    refine ⟨h'.1, h'.2.1, .inr ⟨i, hb, hi, hlt, rfl, _, h'.2.2, ?_, fun j hj => ?_, hP.tks, hP.nT, hP.T1⟩⟩
    · have c0 : A.cin i ≠ 0 := by unfold PA.cin; omega
      rw [upd1_ne _ _ (by omega), upd1_ne _ _ (by omega)]; exact hP.tick
    · by_cases e : j = i
      · subst e
        have hl := hP.lvl j hj
        have hle := hl.le
        have hrm := hl.rm
        rw [upd1_same]
        refine ⟨?_, ?_, by omega, by omega, fun q h1 h2 => ?_, fun q h1 h2 => ?_⟩
        · rw [upd1_ne _ _ (by omega), upd1_ne _ _ (by omega)]; exact hl.inn
        · rw [upd1_ne _ _ (by omega), upd1_same]; rfl
        · have hne := mod_ne (r := A.room) (Nat.le_refl (o j)) (show o j < q by omega) (by omega)
          rw [upd1_ne _ _ (by omega), upd1_ne _ _ (by omega), upd1_ne _ _ (by omega), upd1_ne _ _ (by omega), upd1_ne _ _ (by omega), upd1_ne _ _ (by omega)]
          exact hl.full q (by omega) h2
        · by_cases e : q = o j + A.room
          · subst e
            rw [Nat.add_mod_right, upd1_same]; omega
          · have hne := mod_ne (r := A.room) (Nat.le_refl (o j)) (show o j < q by omega) (by omega)
            rw [upd1_ne _ _ (by omega), upd1_ne _ _ (by omega)]
            exact hl.free q h1 (by omega)
      · rw [upd1_ne _ _ e]
        refine (hP.lvl j hj).congr hr0 (fun c hc => ?_)
        have d : ∀ b, b < 2 + 3 * A.room → A.cin j + c ≠ A.cin i + b := fun b hb => A.cin_ne e hc hb
        have d1 := d 1 (by omega)
        have d2 := d (2 + o i % A.room * 3) (by omega)
        rw [upd1_ne _ _ (by omega), upd1_ne _ _ (by omega)]
end Go.Proofs.Ythnfheohfnhcpaa.Y
