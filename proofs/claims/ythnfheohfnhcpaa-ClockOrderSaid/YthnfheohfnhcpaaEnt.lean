/- The functions of the library's that have no body, by their entries. -/
import Derived.Test.YthnfheohfnhcpaaOps
import Derived.Test.YthnfheohfnhcpaaRul
import Derived.Test.YthnfheohfnhcpaaProg
import Derived.WalkKit
set_option linter.unusedSimpArgs false
set_option linter.unusedVariables false
namespace Go.Proofs.Ythnfheohfnhcpaa.Y
open Go Go.Conc Go.Proofs
theorem ent_load : Ent Try.prog 160 (Extern.Atomic.loadT (.int .i64)) := ⟨⟨_, Try.func160, by kernel_rfl, by kernel_rfl, by kernel_rfl, by rfl⟩⟩
theorem ent_store : Ent Try.prog 235 Extern.Atomic.storeT := ⟨⟨_, Try.func235, by kernel_rfl, by kernel_rfl, by kernel_rfl, by rfl⟩⟩
theorem ent_cas : Ent Try.prog 239 (Extern.Atomic.casT (.int .i64)) := ⟨⟨_, Try.func239, by kernel_rfl, by kernel_rfl, by kernel_rfl, by rfl⟩⟩
theorem ent_add : Ent Try.prog 154 (Extern.Atomic.update (Op.intArith .add) .i64 true) := ⟨⟨_, Try.func154, by kernel_rfl, by kernel_rfl, by kernel_rfl, by rfl⟩⟩
theorem ent_cas32 : Ent Try.prog 260 (Extern.Atomic.casT (.int .i32)) := ⟨⟨_, Try.func260, by kernel_rfl, by kernel_rfl, by kernel_rfl, by rfl⟩⟩
theorem ent_add32 : Ent Try.prog 262 (Extern.Atomic.update (Op.intArith .add) .i32 true) := ⟨⟨_, Try.func262, by kernel_rfl, by kernel_rfl, by kernel_rfl, by rfl⟩⟩
theorem ent_disable : Ent Try.prog 210 (fun _ => do mark .disable; pure Extern.Race.none_) := ⟨⟨_, Try.func210, by kernel_rfl, by kernel_rfl, by kernel_rfl, by rfl⟩⟩
theorem ent_enable : Ent Try.prog 211 (fun _ => do mark .enable; pure Extern.Race.none_) := ⟨⟨_, Try.func211, by kernel_rfl, by kernel_rfl, by kernel_rfl, by rfl⟩⟩
theorem ent_acquire : Ent Try.prog 222 (Extern.Race.marked .acquire) := ⟨⟨_, Try.func222, by kernel_rfl, by kernel_rfl, by kernel_rfl, by rfl⟩⟩
theorem ent_releaseMerge : Ent Try.prog 209 (Extern.Race.marked .releaseMerge) := ⟨⟨_, Try.func209, by kernel_rfl, by kernel_rfl, by kernel_rfl, by rfl⟩⟩
end Go.Proofs.Ythnfheohfnhcpaa.Y
