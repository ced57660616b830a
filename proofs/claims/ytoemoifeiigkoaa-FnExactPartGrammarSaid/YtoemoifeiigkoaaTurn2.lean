import Derived.Test.YtoemoifeiigkoaaTurn
namespace Go.Proofs.Ytoemoifeiigkoaa
open Go.RowKit

end Go.Proofs.Ytoemoifeiigkoaa
