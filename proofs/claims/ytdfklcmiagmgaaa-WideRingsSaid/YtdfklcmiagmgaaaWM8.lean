/- Plain: decimal texts. -/
import Derived.Test.YtdfklcmiagmgaaaWD1
namespace Go.Proofs.Ytdfklcmiagmgaaa
set_option linter.all false
open Go.WideNum
def isDig (c : UInt8) : Bool := decide (48 ≤ c.toNat ∧ c.toNat ≤ 57)
def decV (l : List UInt8) : Nat := l.foldl (fun a c => a * 10 + (c.toNat - 48)) 0
theorem decV_snoc (l : List UInt8) (c : UInt8) : decV (l ++ [c]) = decV l * 10 + (c.toNat - 48) := by unfold decV; rw [List.foldl_append]; rfl
theorem decV_lt (l : List UInt8) (h : ∀ c ∈ l, isDig c = true) : decV l < 10 ^ l.length := by
  have : ∀ r : List UInt8, (∀ c ∈ r, isDig c = true) → decV r.reverse < 10 ^ r.length := by
    intro r
    induction r with
    | nil => intro _; simp [decV]
    | cons c r ih =>
      intro h
      have h1 := ih (fun x hx => h x (by simp [hx]))
      have h2 := h c (by simp)
      unfold isDig at h2
      have h3 := of_decide_eq_true h2
      rw [List.reverse_cons, decV_snoc, List.length_cons, Nat.pow_succ]
      omega
  have := this l.reverse (fun c hc => h c (List.mem_reverse.1 hc))
  rwa [List.reverse_reverse, List.length_reverse] at this
def readNeg (l : List UInt8) : Bool := l.head? == some 45
def readDig (l : List UInt8) : List UInt8 := if readNeg l then l.tail else l
def headBad (neg : Bool) (d : List UInt8) : Bool := d.isEmpty || (d.head? == some 48 && (neg || decide (1 < d.length)))
def digRes (neg : Bool) (d : List UInt8) : Value × Int :=
  if headBad neg d || !d.all isDig then (emptyW, 6) else if 617 < d.length then (emptyW, 7) else (outZ (zOf neg (decV d)), errZ (zOf neg (decV d)))
/-- What Read answers. -/
def readZ (l : List UInt8) : Value × Int := digRes (readNeg l) (readDig l)
theorem ten617 : (10 : Nat) ^ 617 < 4294967296 ^ 65 := by decide +kernel
theorem dec_len (l : List UInt8) (h : ∀ c ∈ l, isDig c = true) (hl : l.length ≤ 617) : (wd (decV l)).length ≤ 65 := by
  unfold wd
  refine words_length (by omega) _ 65 ?_
  exact Nat.lt_trans (Nat.lt_of_lt_of_le (decV_lt l h) (Nat.pow_le_pow_right (by omega) hl)) ten617
end Go.Proofs.Ytdfklcmiagmgaaa
