/-
  What is proved here: the program's struct types as Lean structures, read off cells; what the row's form reads at these types is read so. No condition.
-/
import Derived.Test.YtlfkfofeenakhaaDoorBase
import Derived.Test.YtlfkfofeenakhaaDoorProg
import Derived.KernelRfl
namespace Go.Proofs.YtlfkfofeenakhaaDoor
open Go.RowKit

structure Dec where
  neg : Bool
  dig : ByteArray
  exp : Int
@[reducible] instance : Rd Dec := Rd.via fun x => (x.neg, x.dig, x.exp)
structure Val where
  kind : Int
  num : Dec
  text : ByteArray
@[reducible] instance : Rd Val := Rd.via fun x => (x.kind, x.num, x.text)
structure Arr where
  keys : List ByteArray
  vals : List Val
@[reducible] instance : Rd Arr := Rd.via fun x => (x.keys, x.vals)
structure Leaf where
  path : ByteArray
  kind : Int
  text : ByteArray
@[reducible] instance : Rd Leaf := Rd.via fun x => (x.path, x.kind, x.text)
structure RxNode where
  kind : Int
  lo : Int
  hi : Int
  neg : Bool
  set : List Int
  kids : List Int
@[reducible] instance : Rd RxNode := Rd.via fun x => (x.kind, x.lo, x.hi, x.neg, x.set, x.kids)
structure Rx where
  nodes : List RxNode
@[reducible] instance : Rd Rx := Rd.via fun x => x.nodes
structure NfaOp where
  op : Int
  a : Int
  b : Int
  neg : Bool
  set : List Int
@[reducible] instance : Rd NfaOp := Rd.via fun x => (x.op, x.a, x.b, x.neg, x.set)
structure Nfa where
  ops : List NfaOp
@[reducible] instance : Rd Nfa := Rd.via fun x => x.ops
structure Row where
  cells : List ByteArray
@[reducible] instance : Rd Row := Rd.via fun x => x.cells
structure JNode where
  kind : Int
  text : ByteArray
  keys : List ByteArray
  kids : List Int
@[reducible] instance : Rd JNode := Rd.via fun x => (x.kind, x.text, x.keys, x.kids)
structure Json where
  nodes : List JNode
@[reducible] instance : Rd Json := Rd.via fun x => x.nodes
structure Conf where
  tag : Int
  fs : ByteArray
  rs : ByteArray
  ofs : ByteArray
  ors : ByteArray
  head : Bool
@[reducible] instance : Rd Conf := Rd.via fun x => (x.tag, x.fs, x.rs, x.ofs, x.ors, x.head)
structure Rec where
  text : ByteArray
  cells : List ByteArray
  leaves : List Leaf
@[reducible] instance : Rd Rec := Rd.via fun x => (x.text, x.cells, x.leaves)
structure File where
  name : ByteArray
  text : ByteArray
@[reducible] instance : Rd File := Rd.via fun x => (x.name, x.text)
structure WorldT where
  inp : Conf
  out : Conf
  files : List File
  args : List ByteArray
@[reducible] instance : Rd WorldT := Rd.via fun x => (x.inp, x.out, x.files, x.args)
structure Ins where
  op : Int
  place : Int
  a : Int
  b : Int
  s : ByteArray
@[reducible] instance : Rd Ins := Rd.via fun x => (x.op, x.place, x.a, x.b, x.s)
structure Job where
  world : WorldT
  source : ByteArray
  fuel : Int
@[reducible] instance : Rd Job := Rd.via fun x => (x.world, x.source, x.fuel)

theorem opens_4 : Opens Tryd.prog 4 Bool := opens_bool Tryd.underlying4
theorem opens_9 : Opens Tryd.prog 9 ByteArray := opens_string Tryd.underlying9
theorem opens_3 : Opens Tryd.prog 3 Int := opens_int Tryd.underlying3
theorem opens_73 : Opens Tryd.prog 73 (List ByteArray) := opens_slice Tryd.underlying73 (by kernel_rfl) opens_9
theorem opens_61 : Opens Tryd.prog 61 (List Int) := opens_slice Tryd.underlying61 (by kernel_rfl) opens_3
theorem opens_106 : Opens Tryd.prog 106 JNode :=
  opens_struct (β := Int × ByteArray × (List ByteArray) × (List Int)) Tryd.underlying106 (by kernel_rfl) (parts_cons (by kernel_rfl) (by intro f hf; cases hf; rfl) opens_3 (parts_cons (by kernel_rfl) (by intro f hf; cases hf; rfl) opens_9 (parts_cons (by kernel_rfl) (by intro f hf; cases hf; rfl) opens_73 (parts_one (by kernel_rfl) opens_61)))) (by intro f hf; cases hf; rfl) (fun y h => ⟨⟨y.1, y.2.1, y.2.2.1, y.2.2.2⟩, h⟩)
theorem opens_37 : Opens Tryd.prog 37 (List JNode) := opens_slice Tryd.underlying37 (by kernel_rfl) opens_106
theorem opens_39 : Opens Tryd.prog 39 Json :=
  opens_struct (β := (List JNode)) Tryd.underlying39 (by kernel_rfl) (parts_one (by kernel_rfl) opens_37) (by intro f hf; cases hf; rfl) (fun y h => ⟨⟨y⟩, h⟩)
end Go.Proofs.YtlfkfofeenakhaaDoor
