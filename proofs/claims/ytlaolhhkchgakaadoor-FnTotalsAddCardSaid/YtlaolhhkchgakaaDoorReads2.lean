/- Reading a stream: the program's and the reference's. -/
import Derived.Test.YtlaolhhkchgakaaDoorReads
namespace Go.Proofs.YtlaolhhkchgakaaDoor
set_option linter.unusedVariables false
set_option linter.unusedSimpArgs false
open Go.RowKit


end Go.Proofs.YtlaolhhkchgakaaDoor
