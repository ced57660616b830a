import Derived.Test.YthidgjdjijjkoaaDoorTurn
namespace Go.Proofs.YthidgjdjijjkoaaDoor
open Go.RowKit

end Go.Proofs.YthidgjdjijjkoaaDoor
