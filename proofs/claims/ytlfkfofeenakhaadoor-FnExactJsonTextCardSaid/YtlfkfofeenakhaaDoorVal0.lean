/-
  What is proved here: the value none, and its reading. No condition.
-/
import Derived.Test.YtlfkfofeenakhaaDoorDv
namespace Go.Proofs.YtlfkfofeenakhaaDoor
open Go.RowKit

def val0 : Val := ⟨0, ⟨false, ⟨#[]⟩, 0⟩, ⟨#[]⟩⟩
theorem rd_val0 {S : Nat → Prop} {w : World} : Rd.rd S w [.int .i64 0, .bool false, .string ⟨#[]⟩, .int .i64 0, .string ⟨#[]⟩] val0 :=
  rdVal_mk (x := val0) (by decide) (by decide) (by decide) (by decide)

end Go.Proofs.YtlfkfofeenakhaaDoor
