import Derived.Test.YtilbijekmmkiaaaRlT
/- roll: Those. -/
namespace Cam
open Go Go.RowKit Go.Proofs
end Cam
