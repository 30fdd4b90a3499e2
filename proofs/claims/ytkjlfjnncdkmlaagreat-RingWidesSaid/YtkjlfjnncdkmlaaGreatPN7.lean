/- Plain: the numbers with a prime above 46341. -/
import Derived.Test.YtkjlfjnncdkmlaaGreatPNa
set_option linter.all false
set_option maxRecDepth 100000
set_option maxHeartbeats 40000000
namespace Go.Proofs.YtkjlfjnncdkmlaaGreat.PN

theorem loop0 : fz bigM (fun M => loopK 2400 M 3) = true := by decide +kernel
theorem loop1 : fz bigM (fun M => loopK 2400 M 4803) = true := by decide +kernel
theorem loop2 : fz bigM (fun M => loopK 2400 M 9603) = true := by decide +kernel
theorem loop3 : fz bigM (fun M => loopK 2400 M 14403) = true := by decide +kernel
theorem loop4 : fz bigM (fun M => loopK 2400 M 19203) = true := by decide +kernel
theorem loop5 : fz bigM (fun M => loopK 2400 M 24003) = true := by decide +kernel
theorem loop6 : fz bigM (fun M => loopK 2400 M 28803) = true := by decide +kernel
theorem loop7 : fz bigM (fun M => loopK 2400 M 33603) = true := by decide +kernel
theorem loop8 : fz bigM (fun M => loopK 2400 M 38403) = true := by decide +kernel
theorem loop9 : fz bigM (fun M => loopK 1570 M 43203) = true := by decide +kernel
end Go.Proofs.YtkjlfjnncdkmlaaGreat.PN
