import Derived.Test.YthidgjdjijjkoaaDoorInts
namespace Go.Proofs.YthidgjdjijjkoaaDoor
open Go.RowKit

theorem madeInts (n : Nat) : (madeCells (Value.int .i64 0).cells (n * 1)).toList = (List.replicate n (0 : Int)).map (Value.int .i64) := by
  rw [Nat.mul_one, List.map_replicate]; exact toList_madeCells_one _ n

end Go.Proofs.YthidgjdjijjkoaaDoor
