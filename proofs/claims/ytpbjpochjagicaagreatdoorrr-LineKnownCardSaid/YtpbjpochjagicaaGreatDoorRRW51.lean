/- Walks: lists that hold lines of a net alone: lines. -/
import Derived.Test.YtpbjpochjagicaaGreatDoorRRW8
namespace Go.Proofs.YtpbjpochjagicaaGreatDoorRR
open Go.RowKit

end Go.Proofs.YtpbjpochjagicaaGreatDoorRR
