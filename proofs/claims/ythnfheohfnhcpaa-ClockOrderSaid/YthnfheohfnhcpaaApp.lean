/- Appending to a slice of one's own, in the engine. -/
import Derived.Test.YthnfheohfnhcpaaDrw
import Derived.Conc.AppendWalk
set_option linter.unusedSimpArgs false
set_option linter.unusedVariables false
namespace Go.Proofs.Ythnfheohfnhcpaa.Y
open Go Go.Conc
section
variable {P : Program} {S : Type} {E : Eng P S} {fn : FuncId} {ops : Array Oper} {Q : S → Exit → Act → World → Prop} {σ : S} {a : Act} {w : World} {i : Nat} {rest : List Nat} {o : Oper}

theorem low_mark (m : Mark) (B : Nat) (h : Neutral m) : (MemAct.ofEvent ⟨.mark m, false, true⟩).low B := by unfold Neutral at h; subst h; trivial
/-- What an append of whatever draw yields, and what it lists. -/
theorem append_any {s x : Operand} {t : TypeId} (hop : o.op = .call { callee := .builtin .append, args := #[s, x], argTypes := #[t, t] })
    {base : Nat} {e : TypeId} {inf : TypeInfo} {z : Value} {size bytes : Nat} (ht : P.underlying t = some (.slice e)) (hi : P.info? e = some inf) (hz : inf.zero = some z)
    (hsize : inf.size = size) (hby : inf.bytes = bytes) (hzs : z.cells.size = size) (hsz : 0 < size)
    {v : Value} {n : Nat} {xs : List Value} (hs : a.eval s = v) (hown : w.ownsRow base e size v n xs)
    {ad : Addr} {m c : Nat} {news : List Value} (hx : a.eval x = .slice (some ad) m c) (hl : news.length = m * size) (hnews : ∀ j u, news[j]? = some u → w.cell? (ad.add j) = some u) (h1 : ∀ u ∈ news, u.oneCell' = true)
    (h63 : n + m ≤ maxLen) (hbytes : (n + m) * bytes ≤ 140737488355328) (hbase : base ≤ w.heap.size) {St : Addr → Prop} (hst : ∀ y : Addr, v.ownBlock = some y.block → ¬ St y) (hsrc : ad.block < w.heap.size) (d : Nat) :
    ∃ v' w', (execOp a.eval o).run P (w.at d) = .ok (.value v') w' ∧ Ok St (w.at d) w' ((execOp a.eval o).events P (w.at d) #[]) ∧ NoMark ((execOp a.eval o).events P (w.at d) #[]) ∧
      w'.ownsRow base e size v' (n + m) (xs ++ news) ∧ w.grownBy w' v.ownBlock ∧ (v' = .slice none 0 0 ↔ v = .slice none 0 0 ∧ m = 0) := by
  have hownd : (w.at d).ownsRow base e size v n xs := hown
  obtain ⟨v', w', hr, h2, h3, h4⟩ := run_append_own (P := P) (w.at d) base t o.type e inf z size bytes ht hi hz hsize hby hzs hsz v n xs hownd ad m c news hl hnews h1 h63 hbytes hbase
  have hev := events_append_where (P := P) (w.at d) base t o.type e inf z size bytes ht hi hz hsize hby v n xs hownd ad m c news hl hnews h1 h63 hbytes
  have heq := events_append_op (P := P) (w := w.at d) s x t hop hs hx #[]
  have h3' : w.grownBy w' v.ownBlock := ⟨h3.os, h3.tape, h3.output, h3.size, h3.block⟩
  have hlt := hown.lt
  refine ⟨v', w', ?_, ?_, ?_, h2, h3', h4⟩
  · unfold execOp
    simp only [hop, resolve, invoke, builtin, Sem.run_bind, Sem.run_pure, Result.andThen_ok, List.map_toArray, List.map_cons, List.map_nil, hs, hx, hr]
  · rw [heq]
    refine ⟨fun ev hm y hly hwr => ?_, fun ev hm mk hlm => ?_, fun y hy hsome => ?_, fun ch cap buf cl s r tm hc => ?_, fun ev hm => ?_, h3.size⟩
    · rcases hev ev hm with ⟨y', h5, h6⟩ | ⟨mk, rfl, _⟩
      · rw [h5] at hly
        obtain rfl := Loc.cell.inj hly
        rcases h6 with ⟨h6, _⟩ | h6
        · rw [h6] at hwr; cases hwr
        · exact hst _ h6.symm
      · cases hly
    · rcases hev ev hm with ⟨y', h5, h6⟩ | ⟨mk', rfl, hn⟩
      · rw [h5] at hlm; cases hlm
      · obtain rfl := Loc.mark.inj hlm
        unfold Neutral at hn
        subst hn; trivial
    · have hne : some y.block ≠ v.ownBlock := fun e => hst y e.symm hy
      obtain ⟨u, hu⟩ := Option.isSome_iff_exists.1 hsome
      have hb := h3.block y.block (World.block_lt_of_cell? _ _ hu) hne
      exact ⟨World.cell?_of_block hb, World.frozen?_of_block hb⟩
    · refine h3.block ch (Array.getElem?_eq_some_iff.1 hc).1 fun e => ?_
      rcases hown.2 with ⟨rfl, _⟩ | ⟨g, cap', cur, rfl, _, hg, _⟩
      · cases e
      · simp only [Value.ownBlock, Option.some.injEq] at e
        subst e
        have hc' : w.heap[ch]? = _ := hc
        rw [hg] at hc'
        cases hc'
    · rcases hev ev hm with ⟨y', h5, h6⟩ | ⟨mk', rfl, hn⟩
      · refine low_at h5 (Nat.lt_of_lt_of_le (?_ : y'.block < w.heap.size) h3.size)
        rcases h6 with ⟨_, h6⟩ | h6
        · rw [h6]; exact hsrc
        · exact (hlt _ h6.symm).2
      · exact low_mark _ _ hn
  · rw [heq]
    intro ev hm mk hlm
    rcases hev ev hm with ⟨y', h5, h6⟩ | ⟨mk', rfl, hn⟩
    · rw [h5] at hlm; cases hlm
    · obtain rfl := Loc.mark.inj hlm
      exact hn
/-- AN APPEND. -/
theorem opsY_append {s x : Operand} {t : TypeId} {base : Nat} {e : TypeId} {inf : TypeInfo} {z : Value} {size bytes : Nat} {v : Value} {n : Nat} {xs : List Value} {ad : Addr} {m c : Nat} {news : List Value}
    (ht : P.underlying t = some (.slice e)) (hi : P.info? e = some inf) (hz : inf.zero = some z)
    (hsize : inf.size = size) (hby : inf.bytes = bytes) (hzs : z.cells.size = size) (hsz : 0 < size)
    (hown : w.ownsRow base e size v n xs)
    (hl : news.length = m * size) (hnews : ∀ j u, news[j]? = some u → w.cell? (ad.add j) = some u) (h1 : ∀ u ∈ news, u.oneCell' = true)
    (h63 : n + m ≤ maxLen) (hbytes : (n + m) * bytes ≤ 140737488355328) (hbase : base ≤ w.heap.size) (hst : ∀ y : Addr, v.ownBlock = some y.block → ¬ E.still σ y) (hsrc : ad.block < w.heap.size)
    (ho : ops[i]? = some o) (hw : Region.wanted o (yielded ops a.tmps) = true) (hop : o.op = .call { callee := .builtin .append, args := #[s, x], argTypes := #[t, t] }) (hs : a.eval s = v) (hx : a.eval x = .slice (some ad) m c)
    (h : ∀ v' w', w'.ownsRow base e size v' (n + m) (xs ++ news) → w.grownBy w' v.ownBlock → (v' = .slice none 0 0 ↔ v = .slice none 0 0 ∧ m = 0) → OpsY E fn ops rest Q σ (a.put o.dst v') w') : OpsY E fn ops (i :: rest) Q σ a w :=
  opsY_any ho hw fun d => by
    obtain ⟨v', w', g1, g2, g3, g4, g5, g6⟩ := append_any hop ht hi hz hsize hby hzs hsz hs hown hx hl hnews h1 h63 hbytes hbase hst hsrc d
    exact ⟨v', w', g1, g2, g3, h v' w' g4 g5 g6⟩
theorem opY_append {K : S → Act → World → Prop} {s x : Operand} {t : TypeId} {base : Nat} {e : TypeId} {inf : TypeInfo} {z : Value} {size bytes : Nat} {v : Value} {n : Nat} {xs : List Value} {ad : Addr} {m c : Nat} {news : List Value}
    (ht : P.underlying t = some (.slice e)) (hi : P.info? e = some inf) (hz : inf.zero = some z)
    (hsize : inf.size = size) (hby : inf.bytes = bytes) (hzs : z.cells.size = size) (hsz : 0 < size)
    (hown : w.ownsRow base e size v n xs)
    (hl : news.length = m * size) (hnews : ∀ j u, news[j]? = some u → w.cell? (ad.add j) = some u) (h1 : ∀ u ∈ news, u.oneCell' = true)
    (h63 : n + m ≤ maxLen) (hbytes : (n + m) * bytes ≤ 140737488355328) (hbase : base ≤ w.heap.size) (hst : ∀ y : Addr, v.ownBlock = some y.block → ¬ E.still σ y) (hsrc : ad.block < w.heap.size)
    (ho : ops[i]? = some o) (hw : Region.wanted o (yielded ops a.tmps) = true) (hop : o.op = .call { callee := .builtin .append, args := #[s, x], argTypes := #[t, t] }) (hs : a.eval s = v) (hx : a.eval x = .slice (some ad) m c)
    (h : ∀ v' w', w'.ownsRow base e size v' (n + m) (xs ++ news) → w.grownBy w' v.ownBlock → (v' = .slice none 0 0 ↔ v = .slice none 0 0 ∧ m = 0) → K σ (a.put o.dst v') w') : OpY E Q ops i K σ a w := by
  unfold OpY
  simp only [ho, hw, if_true]
  refine .inr (.inr (.inr (.inl fun d => ?_)))
  obtain ⟨v', w', g1, g2, g3, g4, g5, g6⟩ := append_any hop ht hi hz hsize hby hzs hsz hs hown hx hl hnews h1 h63 hbytes hbase hst hsrc d
  exact ⟨v', w', g1, g2, g3, h v' w' g4 g5 g6⟩
end
end Go.Proofs.Ythnfheohfnhcpaa.Y
