/- The program, with what its package-level variables stand for. -/
import Derived.Test.YtmfechcelhchcaaDoorProg
import Derived.Test.YtmfechcelhchcaaDoorSimAll
import Derived.KernelRfl
namespace Go.Proofs.K
open Go Go.Sim Go.Proofs
noncomputable abbrev Pg (G : Glob) : PG := ⟨Tryd.prog, G⟩
theorem pg_gl (G : Glob) : (Pg G).gl = G := rfl
end Go.Proofs.K
