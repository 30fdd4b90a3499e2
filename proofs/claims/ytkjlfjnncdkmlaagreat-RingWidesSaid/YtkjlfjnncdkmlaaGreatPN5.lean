/- Plain: the numbers whose primes are at most 2000. -/
import Derived.Test.YtkjlfjnncdkmlaaGreatPN4
set_option linter.all false
set_option maxRecDepth 100000
set_option maxHeartbeats 40000000
namespace Go.Proofs.YtkjlfjnncdkmlaaGreat.PN

theorem top20 : tops 15 pl20 = true := by decide +kernel
theorem top19 : tops 15 pl19 = true := by decide +kernel
theorem top18 : tops 15 pl18 = true := by decide +kernel
theorem top17 : tops 15 pl17 = true := by decide +kernel
theorem top16 : tops 15 pl16 = true := by decide +kernel
theorem top15 : tops 15 pl15 = true := by decide +kernel
theorem top14 : tops 15 pl14 = true := by decide +kernel
theorem top13 : tops 15 pl13 = true := by decide +kernel
theorem top12 : tops 15 pl12 = true := by decide +kernel
theorem top11 : tops 15 pl11 = true := by decide +kernel
theorem top10 : tops 15 pl10 = true := by decide +kernel
theorem top9 : tops 15 pl9 = true := by decide +kernel
theorem top8 : tops 15 pl8 = true := by decide +kernel
theorem top7 : tops 15 pl7 = true := by decide +kernel
theorem top6 : tops 15 pl6 = true := by decide +kernel
theorem top5 : tops 15 pl5 = true := by decide +kernel
theorem top4 : tops 15 pl4 = true := by decide +kernel
theorem top3 : tops 15 pl3 = true := by decide +kernel
theorem top2 : tops 15 pl2 = true := by decide +kernel
theorem top1 : tops 15 pl1 = true := by decide +kernel
end Go.Proofs.YtkjlfjnncdkmlaaGreat.PN
