/- The program, with what its package-level variables stand for. -/
import Derived.Test.YtlehoolkjkdncaaProg
import Derived.Test.YtlehoolkjkdncaaSimAll
import Derived.KernelRfl
namespace Go.Proofs.K
open Go Go.Sim Go.Proofs
noncomputable abbrev Pg (G : Glob) : PG := ⟨Try.prog, G⟩
theorem pg_gl (G : Glob) : (Pg G).gl = G := rfl
end Go.Proofs.K
