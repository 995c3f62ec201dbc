/- Functions that only read, 3: made by gen.py. -/
import Derived.Test.YtklmllaggigkfaaGreatPY1
set_option linter.unusedVariables false
set_option linter.unusedSimpArgs false
set_option maxRecDepth 100000
set_option maxHeartbeats 400000
namespace Go.Proofs.YtklmllaggigkfaaGreat
namespace Hw
open Go
noncomputable section
attribute [local irreducible] evFn evBody wrap wxor
end
end Hw
end Go.Proofs.YtklmllaggigkfaaGreat
