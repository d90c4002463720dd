/- What the law on check symbols wants. -/
import Derived.Test.YtaiieodllhoelaaChL
import Derived.Test.YtaiieodllhoelaaChS
namespace Go.Proofs.Ytaiieodllhoelaa
set_option maxRecDepth 100000
end Go.Proofs.Ytaiieodllhoelaa
