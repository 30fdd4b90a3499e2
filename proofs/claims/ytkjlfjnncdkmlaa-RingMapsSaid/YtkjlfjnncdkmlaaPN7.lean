/- Plain: the numbers with a prime above 46341. -/
import Derived.Test.YtkjlfjnncdkmlaaPNa
namespace Go.Proofs.Ytkjlfjnncdkmlaa.PN
set_option linter.all false
theorem loop0 : fz bigM (fun M => loopK 2400 M 3) = true := by decide +kernel
theorem loop1 : fz bigM (fun M => loopK 2400 M 4803) = true := by decide +kernel
theorem loop2 : fz bigM (fun M => loopK 2400 M 9603) = true := by decide +kernel
theorem loop3 : fz bigM (fun M => loopK 2400 M 14403) = true := by decide +kernel
theorem loop4 : fz bigM (fun M => loopK 2400 M 19203) = true := by decide +kernel
theorem loop5 : fz bigM (fun M => loopK 2400 M 24003) = true := by decide +kernel
theorem loop6 : fz bigM (fun M => loopK 2400 M 28803) = true := by decide +kernel
theorem loop7 : fz bigM (fun M => loopK 2400 M 33603) = true := by decide +kernel
theorem loop8 : fz bigM (fun M => loopK 2400 M 38403) = true := by decide +kernel
theorem loop9 : fz bigM (fun M => loopK 1570 M 43203) = true := by decide +kernel
end Go.Proofs.Ytkjlfjnncdkmlaa.PN
