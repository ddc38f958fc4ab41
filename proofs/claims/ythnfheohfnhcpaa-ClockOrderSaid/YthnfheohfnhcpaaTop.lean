/- A law's root: what it leaves. -/
import Derived.Test.YthnfheohfnhcpaaChg
import Derived.Test.YthnfheohfnhcpaaHold
namespace Go.Proofs.Ythnfheohfnhcpaa.Y
open Go Go.Conc Go.Proofs
/-- What the law leaves: true; what stood stands. -/
def LawPost (W : World) (v : Value) (w : World) : Prop := v = .bool true ∧ Chg (fun _ => False) W w
theorem lone_hold {Post : Value → World → Prop} {σ : Gh} (hf : σ.free) (hs : ∀ a, ¬ σ.St a) : Lone (holdE Try.prog Post 0) σ := ⟨hf, hs⟩
theorem chg_at {T : Nat → Prop} {W w : World} (h : Chg T W w) (d : Nat) : Chg T W (w.at d) := ⟨h.tape, h.os, h.output, h.size, h.keep⟩
end Go.Proofs.Ythnfheohfnhcpaa.Y
