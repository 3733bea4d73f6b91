/- Closed facts of the translated program that every walk uses. -/
import Derived.Test.YtijjnlfmlcbfpaaMore
import Derived.Test.YtijjnlfmlcbfpaaProg
namespace Go.Proofs.Ytijjnlfmlcbfpaa
open Go
theorem Trymixed : Try.prog.follows .mixedOrders = true := by kernel_rfl
end Go.Proofs.Ytijjnlfmlcbfpaa
