/- Plain: the numbers with a prime from 2001 to 46341. -/
import Derived.Test.YtkjlfjnncdkmlaaGreatPNa
set_option linter.all false
set_option maxRecDepth 100000
set_option maxHeartbeats 40000000
namespace Go.Proofs.YtkjlfjnncdkmlaaGreat.PN

theorem bigs0 : bigs 500 2001 = true := by decide +kernel
theorem bigs1 : bigs 500 3001 = true := by decide +kernel
theorem bigs2 : bigs 500 4001 = true := by decide +kernel
theorem bigs3 : bigs 1500 5001 = true := by decide +kernel
theorem bigs4 : bigs 1500 8001 = true := by decide +kernel
theorem bigs5 : bigs 1500 11001 = true := by decide +kernel
theorem bigs6 : bigs 4000 14001 = true := by decide +kernel
theorem bigs7 : bigs 4000 22001 = true := by decide +kernel
theorem bigs8 : bigs 4000 30001 = true := by decide +kernel
theorem bigs9 : bigs 4000 38001 = true := by decide +kernel
theorem bigs10 : bigs 171 46001 = true := by decide +kernel
end Go.Proofs.YtkjlfjnncdkmlaaGreat.PN
