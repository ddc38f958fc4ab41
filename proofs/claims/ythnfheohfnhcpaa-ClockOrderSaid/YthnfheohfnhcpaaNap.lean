/- Appending what has just been built. -/
import Derived.Test.YthnfheohfnhcpaaNum
set_option linter.unusedSimpArgs false
set_option linter.unusedVariables false
namespace Go.Proofs.Ythnfheohfnhcpaa.Y
open Go Go.Conc Go.Proofs
/-! ### appending what has just been built -/
section
variable {P : Program} {S : Type} {E : Eng P S} {fn : FuncId} {Q : S → Exit → Act → World → Prop} {σ : S} {a : Act} {w : World} {ops : Array Oper} {i : Nat} {rest : List Nat} {o : Oper}
theorem info_facts {e : TypeId} {size bytes : Nat} {z : Value} (h : (P.info? e).map (fun i => (i.size, i.bytes, i.zero)) = some (size, bytes, some z)) : ∃ inf, P.info? e = some inf ∧ inf.zero = some z ∧ inf.size = size ∧ inf.bytes = bytes := by
  cases hi : P.info? e with
  | none => rw [hi] at h; cases h
  | some inf => rw [hi] at h; simp only [Option.map_some, Option.some.injEq, Prod.mk.injEq] at h; exact ⟨inf, rfl, h.2.2, h.1, h.2.1⟩
theorem opsY_app {s x : Operand} {t : TypeId} {e : TypeId} (size bytes : Nat) (z : Value) {base : Nat} {v : Value} {n : Nat} {xs : List Value} {g m c : Nat} (news : List Value)
    (ht : P.underlying t = some (.slice e)) (hinf : (P.info? e).map (fun i => (i.size, i.bytes, i.zero)) = some (size, bytes, some z)) (hzs : z.cells.size = size) (hsz : 0 < size) (hby : bytes ≤ 1000)
    (hown : w.ownsRow base e size v n xs) (hl : news.length = m * size) (hnews : ∀ j u, news[j]? = some u → w.cell? ⟨g, j, none⟩ = some u) (h1 : ∀ u ∈ news, u.oneCell' = true)
    (h63 : n + m ≤ 10000000) (hbase : base ≤ w.heap.size) (hst : ∀ y, ¬ E.still σ y) (hsrc : g < w.heap.size)
    (ho : ops[i]? = some o) (hw : Region.wanted o (yielded ops a.tmps) = true) (hop : o.op = .call { callee := .builtin .append, args := #[s, x], argTypes := #[t, t] }) (hs : a.eval s = v) (hx : a.eval x = .slice (some ⟨g, 0, none⟩) m c)
    (h : ∀ v' w', w'.ownsRow base e size v' (n + m) (xs ++ news) → Chg (fun b => v.ownBlock = some b) w w' → OpsY E fn ops rest Q σ (a.put o.dst v') w') : OpsY E fn ops (i :: rest) Q σ a w := by
  obtain ⟨inf, h2, h3, h4, h5⟩ := info_facts hinf
  exact opsY_append ht h2 h3 h4 h5 hzs hsz hown hl (fun j u hu => by rw [add_at0]; exact hnews j u hu) h1 (by simp only [maxLen]; omega) (by have := Nat.mul_le_mul h63 hby; omega) hbase (fun y _ => hst y) hsrc ho hw hop hs hx (fun v' w' g1 g2 _ => h v' w' g1 (chg_grown g2))
theorem opY_app {K : S → Act → World → Prop} {s x : Operand} {t : TypeId} {e : TypeId} (size bytes : Nat) (z : Value) {base : Nat} {v : Value} {n : Nat} {xs : List Value} {g m c : Nat} (news : List Value)
    (ht : P.underlying t = some (.slice e)) (hinf : (P.info? e).map (fun i => (i.size, i.bytes, i.zero)) = some (size, bytes, some z)) (hzs : z.cells.size = size) (hsz : 0 < size) (hby : bytes ≤ 1000)
    (hown : w.ownsRow base e size v n xs) (hl : news.length = m * size) (hnews : ∀ j u, news[j]? = some u → w.cell? ⟨g, j, none⟩ = some u) (h1 : ∀ u ∈ news, u.oneCell' = true)
    (h63 : n + m ≤ 10000000) (hbase : base ≤ w.heap.size) (hst : ∀ y, ¬ E.still σ y) (hsrc : g < w.heap.size)
    (ho : ops[i]? = some o) (hw : Region.wanted o (yielded ops a.tmps) = true) (hop : o.op = .call { callee := .builtin .append, args := #[s, x], argTypes := #[t, t] }) (hs : a.eval s = v) (hx : a.eval x = .slice (some ⟨g, 0, none⟩) m c)
    (h : ∀ v' w', w'.ownsRow base e size v' (n + m) (xs ++ news) → Chg (fun b => v.ownBlock = some b) w w' → K σ (a.put o.dst v') w') : OpY E Q ops i K σ a w := by
  obtain ⟨inf, h2, h3, h4, h5⟩ := info_facts hinf
  exact opY_append ht h2 h3 h4 h5 hzs hsz hown hl (fun j u hu => by rw [add_at0]; exact hnews j u hu) h1 (by simp only [maxLen]; omega) (by have := Nat.mul_le_mul h63 hby; omega) hbase (fun y _ => hst y) hsrc ho hw hop hs hx (fun v' w' g1 g2 _ => h v' w' g1 (chg_grown g2))
/-- The cells of a block that has just been made. -/
theorem cells_alloc {w : World} (cs : Array Value) (t : TypeId) {j : Nat} {u : Value} (h : cs[j]? = some u) : (w.alloc (.cells cs t (0, 0))).cell? ⟨w.heap.size, j, none⟩ = some u := by
  have := heap_alloc_self w (.cells cs t (0, 0))
  unfold World.cell?; simp only; rw [this]; simpa using h
end
end Go.Proofs.Ythnfheohfnhcpaa.Y
