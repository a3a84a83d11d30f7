/-
  What is proved here: the program's struct types as Lean structures, read off cells; what the row's form reads at these types is read so. No condition.
-/
import Derived.Test.YtjpkdgedglnchaaDoorTypes
import Derived.KernelRfl
namespace Go.Proofs.YtjpkdgedglnchaaDoor
open Go.RowKit

structure Outcome where
  code : Int
  exit : Int
  ticks : Int
  files : List File
@[reducible] instance : Rd Outcome := Rd.via fun x => (x.code, x.exit, x.ticks, x.files)

theorem opens_24 : Opens Tryd.prog 24 Outcome :=
  opens_struct (β := Int × Int × Int × (List File)) Tryd.underlying24 (by kernel_rfl) (parts_cons (by kernel_rfl) (by intro f hf; cases hf; rfl) opens_3 (parts_cons (by kernel_rfl) (by intro f hf; cases hf; rfl) opens_3 (parts_cons (by kernel_rfl) (by intro f hf; cases hf; rfl) opens_3 (parts_one (by kernel_rfl) opens_22)))) (by intro f hf; cases hf; rfl) (fun y h => ⟨⟨y.1, y.2.1, y.2.2.1, y.2.2.2⟩, h⟩)
end Go.Proofs.YtjpkdgedglnchaaDoor
