/- Plain: the list of the primes up to 2000 with the orders of the bases, and what is calculated of it. -/
import Derived.Test.YtkjlfjnncdkmlaaGreatPNa
set_option linter.all false
set_option maxRecDepth 100000
set_option maxHeartbeats 40000000
namespace Go.Proofs.YtkjlfjnncdkmlaaGreat.PN

def pl0 : PL := .nil
def pl1 : PL := .cons 59 58 (.cons 53 52 (.cons 47 23 (.cons 43 42 (.cons 41 40 (.cons 37 36 (.cons 31 30 (.cons 29 28 (.cons 23 22 (.cons 19 18 (.cons 17 16 (.cons 13 12 (.cons 11 10 (.cons 5 4 (.cons 3 2 (pl0)))))))))))))))
def pl2 : PL := .cons 137 68 (.cons 131 130 (.cons 127 126 (.cons 113 56 (.cons 109 108 (.cons 107 106 (.cons 103 51 (.cons 101 100 (.cons 97 96 (.cons 89 88 (.cons 83 82 (.cons 79 78 (.cons 73 72 (.cons 71 70 (.cons 67 66 (pl1)))))))))))))))
def pl3 : PL := .cons 223 222 (.cons 211 210 (.cons 199 99 (.cons 197 196 (.cons 193 192 (.cons 191 190 (.cons 181 180 (.cons 179 178 (.cons 173 172 (.cons 167 83 (.cons 163 162 (.cons 157 156 (.cons 151 150 (.cons 149 148 (.cons 139 138 (pl2)))))))))))))))
def pl4 : PL := .cons 307 306 (.cons 293 292 (.cons 283 282 (.cons 281 280 (.cons 277 276 (.cons 271 135 (.cons 269 268 (.cons 263 262 (.cons 257 256 (.cons 251 250 (.cons 241 240 (.cons 239 238 (.cons 233 232 (.cons 229 228 (.cons 227 226 (pl3)))))))))))))))
def pl5 : PL := .cons 397 396 (.cons 389 388 (.cons 383 382 (.cons 379 378 (.cons 373 372 (.cons 367 183 (.cons 359 358 (.cons 353 352 (.cons 349 348 (.cons 347 346 (.cons 337 336 (.cons 331 330 (.cons 317 316 (.cons 313 312 (.cons 311 310 (pl4)))))))))))))))
def pl6 : PL := .cons 487 486 (.cons 479 239 (.cons 467 466 (.cons 463 462 (.cons 461 460 (.cons 457 456 (.cons 449 224 (.cons 443 442 (.cons 439 73 (.cons 433 432 (.cons 431 430 (.cons 421 420 (.cons 419 418 (.cons 409 408 (.cons 401 400 (pl5)))))))))))))))
def pl7 : PL := .cons 593 592 (.cons 587 586 (.cons 577 576 (.cons 571 570 (.cons 569 284 (.cons 563 562 (.cons 557 556 (.cons 547 546 (.cons 541 540 (.cons 523 522 (.cons 521 520 (.cons 509 508 (.cons 503 251 (.cons 499 498 (.cons 491 490 (pl6)))))))))))))))
def pl8 : PL := .cons 677 676 (.cons 673 672 (.cons 661 660 (.cons 659 658 (.cons 653 652 (.cons 647 646 (.cons 643 642 (.cons 641 640 (.cons 631 630 (.cons 619 618 (.cons 617 616 (.cons 613 612 (.cons 607 303 (.cons 601 600 (.cons 599 598 (pl7)))))))))))))))
def pl9 : PL := .cons 787 786 (.cons 773 772 (.cons 769 768 (.cons 761 760 (.cons 757 756 (.cons 751 750 (.cons 743 742 (.cons 739 738 (.cons 733 732 (.cons 727 363 (.cons 719 359 (.cons 709 708 (.cons 701 700 (.cons 691 690 (.cons 683 682 (pl8)))))))))))))))
def pl10 : PL := .cons 883 882 (.cons 881 880 (.cons 877 876 (.cons 863 862 (.cons 859 858 (.cons 857 856 (.cons 853 852 (.cons 839 419 (.cons 829 828 (.cons 827 826 (.cons 823 822 (.cons 821 820 (.cons 811 810 (.cons 809 404 (.cons 797 796 (pl9)))))))))))))))
def pl11 : PL := .cons 997 996 (.cons 991 990 (.cons 983 982 (.cons 977 488 (.cons 971 970 (.cons 967 966 (.cons 953 952 (.cons 947 946 (.cons 941 940 (.cons 937 936 (.cons 929 928 (.cons 919 918 (.cons 911 182 (.cons 907 906 (.cons 887 886 (pl10)))))))))))))))
def pl12 : PL := .cons 1093 1092 (.cons 1091 1090 (.cons 1087 1086 (.cons 1069 1068 (.cons 1063 1062 (.cons 1061 1060 (.cons 1051 1050 (.cons 1049 1048 (.cons 1039 1038 (.cons 1033 516 (.cons 1031 1030 (.cons 1021 1020 (.cons 1019 1018 (.cons 1013 1012 (.cons 1009 1008 (pl11)))))))))))))))
def pl13 : PL := .cons 1213 1212 (.cons 1201 600 (.cons 1193 1192 (.cons 1187 1186 (.cons 1181 1180 (.cons 1171 1170 (.cons 1163 1162 (.cons 1153 1152 (.cons 1151 1150 (.cons 1129 1128 (.cons 1123 1122 (.cons 1117 1116 (.cons 1109 1108 (.cons 1103 1102 (.cons 1097 1096 (pl12)))))))))))))))
def pl14 : PL := .cons 1303 1302 (.cons 1301 1300 (.cons 1297 648 (.cons 1291 1290 (.cons 1289 1288 (.cons 1283 1282 (.cons 1279 1278 (.cons 1277 1276 (.cons 1259 1258 (.cons 1249 1248 (.cons 1237 1236 (.cons 1231 1230 (.cons 1229 1228 (.cons 1223 611 (.cons 1217 1216 (pl13)))))))))))))))
def pl15 : PL := .cons 1439 1438 (.cons 1433 1432 (.cons 1429 1428 (.cons 1427 1426 (.cons 1423 474 (.cons 1409 1408 (.cons 1399 699 (.cons 1381 1380 (.cons 1373 1372 (.cons 1367 1366 (.cons 1361 1360 (.cons 1327 1326 (.cons 1321 1320 (.cons 1319 1318 (.cons 1307 1306 (pl14)))))))))))))))
def pl16 : PL := .cons 1543 1542 (.cons 1531 1530 (.cons 1523 1522 (.cons 1511 755 (.cons 1499 1498 (.cons 1493 1492 (.cons 1489 1488 (.cons 1487 1486 (.cons 1483 1482 (.cons 1481 1480 (.cons 1471 1470 (.cons 1459 1458 (.cons 1453 1452 (.cons 1451 1450 (.cons 1447 1446 (pl15)))))))))))))))
def pl17 : PL := .cons 1627 1626 (.cons 1621 1620 (.cons 1619 1618 (.cons 1613 1612 (.cons 1609 1608 (.cons 1607 1606 (.cons 1601 1600 (.cons 1597 1596 (.cons 1583 1582 (.cons 1579 1578 (.cons 1571 1570 (.cons 1567 783 (.cons 1559 779 (.cons 1553 1552 (.cons 1549 1548 (pl16)))))))))))))))
def pl18 : PL := .cons 1753 1752 (.cons 1747 1746 (.cons 1741 1740 (.cons 1733 1732 (.cons 1723 1722 (.cons 1721 1720 (.cons 1709 1708 (.cons 1699 1698 (.cons 1697 1696 (.cons 1693 1692 (.cons 1669 1668 (.cons 1667 1666 (.cons 1663 1662 (.cons 1657 552 (.cons 1637 1636 (pl17)))))))))))))))
def pl19 : PL := .cons 1877 1876 (.cons 1873 1872 (.cons 1871 1870 (.cons 1867 1866 (.cons 1861 1860 (.cons 1847 1846 (.cons 1831 1830 (.cons 1823 1822 (.cons 1811 1810 (.cons 1801 1800 (.cons 1789 1788 (.cons 1787 1786 (.cons 1783 891 (.cons 1777 1776 (.cons 1759 1758 (pl18)))))))))))))))
def pl20 : PL := .cons 1999 1998 (.cons 1997 1996 (.cons 1993 1992 (.cons 1987 1986 (.cons 1979 1978 (.cons 1973 1972 (.cons 1951 975 (.cons 1949 1948 (.cons 1933 1932 (.cons 1931 1930 (.cons 1913 956 (.cons 1907 1906 (.cons 1901 1900 (.cons 1889 1888 (.cons 1879 939 (pl19)))))))))))))))
def complGo : Nat → Nat → Bool
 | 0, _ => true
 | f+1, s => cond (or (memB s pl20) (or (Nat.beq s 2) (or (Nat.beq s 7) (or (Nat.beq s 61) (not (primeQ s)))))) (fz (Nat.succ s) fun s' => complGo f s') false
theorem complGo_sound : ∀ (f s : Nat), complGo f s = true → ∀ i, i < f → (or (memB (s + i) pl20) (or (Nat.beq (s + i) 2) (or (Nat.beq (s + i) 7) (or (Nat.beq (s + i) 61) (not (primeQ (s + i))))))) = true
 | 0, _, _, i, hi => by omega
 | f + 1, s, h, i, hi => by
  obtain ⟨h1, h2⟩ := condF h
  rw [fz_eq] at h2
  cases i with
  | zero => exact h1
  | succ i =>
   have := complGo_sound f _ h2 i (by omega)
   rwa [show s + (i + 1) = Nat.succ s + i by show _ = s + 1 + i; omega]
def smallGo : Nat → Nat → Bool
 | 0, _ => true
 | f+1, n => cond (or (primeQ n) (or (fails n) (or (Nat.beq (Nat.mod n 2) 0) (or (Nat.beq (Nat.mod n 7) 0) (Nat.beq (Nat.mod n 61) 0))))) (fz (Nat.succ n) fun n' => smallGo f n') false
theorem smallGo_sound : ∀ (f n : Nat), smallGo f n = true → ∀ i, i < f → (or (primeQ (n + i)) (or (fails (n + i)) (or (Nat.beq (Nat.mod (n + i) 2) 0) (or (Nat.beq (Nat.mod (n + i) 7) 0) (Nat.beq (Nat.mod (n + i) 61) 0))))) = true
 | 0, _, _, i, hi => by omega
 | f + 1, s, h, i, hi => by
  obtain ⟨h1, h2⟩ := condF h
  rw [fz_eq] at h2
  cases i with
  | zero => exact h1
  | succ i =>
   have := smallGo_sound f _ h2 i (by omega)
   rwa [show s + (i + 1) = Nat.succ s + i by show _ = s + 1 + i; omega]
theorem compl_ok : complGo 2001 0 = true := by decide +kernel
theorem pl_ok : okPL pl20 = true := by decide +kernel
theorem small_ok : smallGo 1999 2 = true := by decide +kernel
end Go.Proofs.YtkjlfjnncdkmlaaGreat.PN
