/- What the law on ranks wants. -/
import Derived.Test.YtaiieodllhoelaaChL
import Derived.Test.YtaiieodllhoelaaChR
namespace Go.Proofs.Ytaiieodllhoelaa
set_option maxRecDepth 100000
end Go.Proofs.Ytaiieodllhoelaa
