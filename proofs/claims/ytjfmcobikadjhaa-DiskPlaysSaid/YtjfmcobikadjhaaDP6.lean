/- Plain: a disk: when a call succeeds. -/
import Derived.Test.YtjfmcobikadjhaaDP5
namespace Go.Proofs.Ytjfmcobikadjhaa
set_option linter.all false
open Go.RowKit Go.Shelf
theorem appended_ok {d : Dk} (hg : d.good) (r : List UInt8) (hf : d.failed = false) (hr : r.length ≤ 65535) (hfit : d.used + 13 + r.length ≤ d.size) (hroom : d.fuse = -1 ∨ ((15 + r.length : Nat) : Int) ≤ d.fuse) : (d.appended r).1 = 0 := by
  unfold Dk.appended
  rw [if_neg (by rw [hf]; simp), if_neg (by omega), if_neg (by have := hg.half; omega), if_neg (by omega)]
  show Wr.err _ = 0
  unfold Wr.err
  rw [app_room d.wr d.size d.gen d.used r ⟨hf, hroom⟩]; rfl
theorem appended_err {d : Dk} (hg : d.good) (r : List UInt8) (hf : d.failed = false) (hr : r.length ≤ 65535) (hfit : d.used + 13 + r.length ≤ d.size) : (d.appended r).1 = 0 ∨ (d.appended r).1 = 9 := by
  unfold Dk.appended
  rw [if_neg (by rw [hf]; simp), if_neg (by omega), if_neg (by have := hg.half; omega), if_neg (by omega)]
  show Wr.err _ = 0 ∨ Wr.err _ = 9
  unfold Wr.err
  split
  · right; rfl
  · left; rfl
theorem appended_full {d : Dk} (hg : d.good) (r : List UInt8) (hf : d.failed = false) (hr : r.length ≤ 65535) (hfit : d.size < d.used + 13 + r.length) : d.appended r = (5, d) := by
  unfold Dk.appended
  rw [if_neg (by rw [hf]; simp), if_neg (by omega), if_neg (by have := hg.half; omega), if_pos (by omega)]
theorem rewritten_ok {d : Dk} (hg : d.good) (l : List (List UInt8)) (hf : d.failed = false) (hl : longAny l = false) (hs : sumR l ≤ d.size) (hgn : d.gen ≠ 9223372036854775807) (hroom : d.fuse = -1 ∨ ((d.size + 1 : Nat) : Int) ≤ d.fuse) : (d.rewritten l).1 = 0 := by
  unfold Dk.rewritten
  rw [if_neg (by rw [hf]; simp), if_neg (by rw [hl]; simp), if_neg (by omega)]
  show Wr.err _ = 0
  unfold Wr.err
  rw [rew_room d.other d.size (d.gen + 1) l (by have := hg.ok.lo; omega) hs ⟨hf, hroom⟩]; rfl
theorem rewritten_err {d : Dk} (l : List (List UInt8)) (hf : d.failed = false) (hl : longAny l = false) (hs : sumR l ≤ d.size) (hgn : d.gen ≠ 9223372036854775807) : (d.rewritten l).1 = 0 ∨ (d.rewritten l).1 = 9 := by
  unfold Dk.rewritten
  rw [if_neg (by rw [hf]; simp), if_neg (by rw [hl]; simp), if_neg (by omega)]
  show Wr.err _ = 0 ∨ Wr.err _ = 9
  unfold Wr.err
  split
  · right; rfl
  · left; rfl
theorem rewritten_down {d : Dk} (hg : d.good) (l : List (List UInt8)) (hf : d.failed = false) (hl : longAny l = false) (hs : sumR l ≤ d.size) (hgn : d.gen ≠ 9223372036854775807) (h0 : 0 ≤ d.fuse) (h1 : d.fuse ≤ 40) : (d.rewritten l).1 = 9 ∧ (d.rewritten l).2.failed = true := by
  unfold Dk.rewritten
  rw [if_neg (by rw [hf]; simp), if_neg (by rw [hl]; simp), if_neg (by omega)]
  have h := rew_short d.other d.size (d.gen + 1) l hg.ok.lo hs h0 h1
  refine ⟨?_, ?_⟩
  · show Wr.err _ = 9
    unfold Wr.err
    rw [h]; rfl
  · show (d.put _ _).failed = true
    rw [put_failed]; exact h
theorem good_fuse {d : Dk} (hg : d.good) (n : Int) (h1 : -1 ≤ n) (h2 : n ≤ 9223372036854775807) (z : Bool) : ({ d with fuse := n, failed := z } : Dk).good :=
  ⟨⟨hg.ok.l0, hg.ok.l1, hg.ok.lo, hg.ok.hi, h1, h2⟩, hg.half⟩
end Go.Proofs.Ytjfmcobikadjhaa
