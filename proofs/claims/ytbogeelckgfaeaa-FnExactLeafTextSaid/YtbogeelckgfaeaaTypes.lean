/-
  What is proved here: the program's struct types as Lean structures, read off cells; what the row's form reads at these types is read so. No condition.
-/
import Derived.Test.YtbogeelckgfaeaaBase
import Derived.Test.YtbogeelckgfaeaaProg
import Derived.KernelRfl
namespace Go.Proofs.Ytbogeelckgfaeaa
open Go.RowKit

structure Leaf where
  path : ByteArray
  kind : Int
  text : ByteArray
@[reducible] instance : Rd Leaf := Rd.via fun l => (l.path, l.kind, l.text)

theorem opens_3 : Opens Try.prog 3 Int := opens_int Try.underlying3
theorem opens_9 : Opens Try.prog 9 ByteArray := opens_string Try.underlying9
theorem opens_26 : Opens Try.prog 26 (List ByteArray) := opens_slice Try.underlying26 (by kernel_rfl) opens_9
theorem opens_33 : Opens Try.prog 33 Leaf :=
  opens_struct (β := ByteArray × Int × ByteArray) Try.underlying33 (by kernel_rfl) (parts_cons (by kernel_rfl) (by intro f hf; cases hf; rfl) opens_9 (parts_cons (by kernel_rfl) (by intro f hf; cases hf; rfl) opens_3 (parts_one (by kernel_rfl) opens_9)))
    (by intro f hf; cases hf; rfl) (fun y h => ⟨⟨y.1, y.2.1, y.2.2⟩, h⟩)
end Go.Proofs.Ytbogeelckgfaeaa
