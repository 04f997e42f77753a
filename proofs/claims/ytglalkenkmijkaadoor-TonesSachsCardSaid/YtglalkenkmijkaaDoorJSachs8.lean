/- Sachs: part 8 of the texts of this claim, joined by a program: the walks over the program's text, the plain laws, the card. No condition beyond the statement's own. -/
import Derived.Test.YtglalkenkmijkaaDoorJSachs7
/- The sums of all weights without signs are small: reckoned. -/
namespace Go.Proofs.YtglalkenkmijkaaDoor.Enum
set_option maxRecDepth 100000 in
theorem mass_sachs : ∀ n, n < 8 → mass (EO (-1) (-2) n 8 (2 ^ n - 1)) ≤ 1000000 := by decide +kernel
set_option maxRecDepth 100000 in
theorem mass_many : ∀ n, n < 8 → mass (EO 1 1 n 8 (2 ^ n - 1)) ≤ 1000000 := by decide +kernel
set_option maxRecDepth 100000 in
theorem mass_matched : ∀ n, n < 8 → mass (EO (-1) 0 n 8 (2 ^ n - 1)) ≤ 1000000 := by decide +kernel
end Go.Proofs.YtglalkenkmijkaaDoor.Enum
