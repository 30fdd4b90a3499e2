/- Plain: a disk's records, their end; what writes bytes. -/
import Derived.Test.YtjfmcobikadjhaaDB4
namespace Go.Proofs.Ytjfmcobikadjhaa
set_option linter.all false
open Go.RowKit Go.Shelf
theorem nextR_bounds {h : List UInt8} {g k e : Nat} {d : List UInt8} (hn : nextR h g k = some (e, d)) : e ≤ h.length ∧ e = k + 13 + d.length ∧ d.length ≤ 65535 ∧ h.getD k 0 = 1 ∧ (h.drop (k + 1)).take (12 + d.length) = bodyL g k d := by
  unfold nextR at hn
  split at hn
  · rename_i hc
    obtain ⟨c1, c2, c3, c4, c5⟩ := hc
    injection hn with hn
    injection hn with h1 h2
    have hl : d.length = numL ((h.drop (k + 1)).take 4) := by rw [← h2, List.length_take, List.length_drop]; omega
    refine ⟨by omega, by omega, by omega, c2, ?_⟩
    rw [hl, c5, h2]
  · cases hn
theorem recF_bounds {h : List UInt8} {g : Nat} : ∀ (f k : Nat) (x : Nat × List UInt8), x ∈ recF h g f k → k ≤ x.1 ∧ x.1 ≤ h.length := by
  intro f
  induction f with
  | zero => intro k x hx; simp [recF] at hx
  | succ f ih =>
    intro k x hx
    cases hn : nextR h g k with
    | none => rw [recF_none hn] at hx; simp at hx
    | some y =>
      obtain ⟨e, d⟩ := y
      rw [recF_some hn] at hx
      obtain ⟨q1, q2, -, -, -⟩ := nextR_bounds hn
      rcases List.mem_cons.1 hx with rfl | hx
      · exact ⟨by simp only; omega, q1⟩
      · have := ih e x hx
        omega
theorem lastE_mem (l : List (Nat × List UInt8)) : lastE l = 17 ∨ ∃ x ∈ l, lastE l = x.1 := by
  unfold lastE
  cases hl : l.getLast? with
  | none => left; rfl
  | some x => right; exact ⟨x, List.mem_of_getLast? hl, rfl⟩
theorem endR_bounds {h : List UInt8} (g : Nat) (h64 : 64 ≤ h.length) : 17 ≤ endR h g ∧ endR h g ≤ h.length := by
  unfold endR
  rcases lastE_mem (recs h g) with e | ⟨x, hx, e⟩
  · rw [e]; omega
  · rw [e]; exact recF_bounds _ _ _ hx
/-! ### writing -/
theorem putS_length (s : List UInt8) : ∀ (st : Wr) (k : Nat), (putS st k s).h.length = st.h.length := by
  induction s with
  | nil => intro st k; rfl
  | cons c s ih =>
    intro st k
    rw [putS]
    split
    · rfl
    · rw [ih]; simp
def Wr.ok (st : Wr) : Prop := -1 ≤ st.fuse ∧ st.fuse ≤ 9223372036854775807
theorem putS_ok (s : List UInt8) : ∀ (st : Wr) (k : Nat), st.ok → (putS st k s).ok := by
  induction s with
  | nil => intro st k h; exact h
  | cons c s ih =>
    intro st k h
    rw [putS]
    split
    · exact h
    · refine ih _ _ ?_
      obtain ⟨h1, h2⟩ := h
      constructor <;> (simp only; split <;> omega)
def Dk.wr (d : Dk) : Wr := ⟨d.act, d.fuse, d.failed⟩
/-- The half that is active, written. -/
def Dk.put (d : Dk) (x : Int) (st : Wr) : Dk := if x = 1 then ⟨d.size, d.h0, st.h, st.fuse, st.failed⟩ else ⟨d.size, st.h, d.h1, st.fuse, st.failed⟩
def Wr.err (st : Wr) : Int := if st.failed = true then 9 else 0
def appS (st : Wr) (n g k : Nat) (r : List UInt8) : Wr :=
  putS (putS (if k + 13 + r.length < n then putS (putS st k [0]) (k + 13 + r.length) [0] else putS st k [0]) (k + 1) (bodyL g k r)) k [1]
def Dk.appended (d : Dk) (r : List UInt8) : Int × Dk :=
  if d.failed = true then (9, d) else if 65535 < r.length then (3, d) else if d.half < 0 then (4, d) else if d.size < d.used + 13 + r.length then (5, d) else
    ((appS d.wr d.size d.gen d.used r).err, d.put d.half (appS d.wr d.size d.gen d.used r))
theorem DiskAt.wr0 {w : World} {p b0 b1 : Nat} {d : Dk} (h : DiskAt w p b0 b1 d) (ho : d.ok) : WrAt w p b0 d.size (.slice (some ⟨b0, 0, none⟩) d.size d.size) (.slice (some ⟨b1, 0, none⟩) d.size d.size) ⟨d.h0, d.fuse, d.failed⟩ :=
  ⟨h.at_, h.a0, ho.l0, h.n0, ho.f1, ho.f2⟩
theorem DiskAt.wr1 {w : World} {p b0 b1 : Nat} {d : Dk} (h : DiskAt w p b0 b1 d) (ho : d.ok) : WrAt w p b1 d.size (.slice (some ⟨b0, 0, none⟩) d.size d.size) (.slice (some ⟨b1, 0, none⟩) d.size d.size) ⟨d.h1, d.fuse, d.failed⟩ :=
  ⟨h.at_, h.a1, ho.l1, h.n1, ho.f1, ho.f2⟩
theorem HalfAt.kp {w w' : World} {P : Nat → Prop} {b : Nat} {h : List UInt8} (hh : HalfAt w b h) (hk : Kp P w w') (hp : ¬ P b) : HalfAt w' b h := by
  obtain ⟨t, ht⟩ := hh
  exact ⟨t, (hk.block b (lt_of_heap ht) hp).trans ht⟩
theorem DiskAt.back0 {w w' : World} {p b0 b1 : Nat} {d : Dk} {st : Wr} (h : DiskAt w p b0 b1 d) (hk : Kp (two p b0) w w') (hw : WrAt w' p b0 d.size (.slice (some ⟨b0, 0, none⟩) d.size d.size) (.slice (some ⟨b1, 0, none⟩) d.size d.size) st) : DiskAt w' p b0 b1 (d.put 0 st) :=
  ⟨hw.at_, hw.half, h.a1.kp hk (fun q => Or.elim q h.n1 (fun q => h.n01 q.symm)), h.n01, h.n0, h.n1⟩
theorem DiskAt.back1 {w w' : World} {p b0 b1 : Nat} {d : Dk} {st : Wr} (h : DiskAt w p b0 b1 d) (hk : Kp (two p b1) w w') (hw : WrAt w' p b1 d.size (.slice (some ⟨b0, 0, none⟩) d.size d.size) (.slice (some ⟨b1, 0, none⟩) d.size d.size) st) : DiskAt w' p b0 b1 (d.put 1 st) :=
  ⟨hw.at_, h.a0.kp hk (fun q => Or.elim q h.n0 h.n01), hw.half, h.n01, h.n0, h.n1⟩
theorem WrAt.below {w w' : World} {p b n : Nat} {x y : Value} {st : Wr} (h : WrAt w p b n x y st) (hb : Below w.heap.size w w') : WrAt w' p b n x y st :=
  ⟨(hb.block _ (lt_of_heap h.at_)).trans h.at_, h.half.below hb h.half.lt, h.len, h.ne, h.f1, h.f2⟩
end Go.Proofs.Ytjfmcobikadjhaa
