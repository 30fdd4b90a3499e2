/- Helpers and walks, in one text. -/
import Derived.Test.YtoggmplkbiidhaaDoorPX3
import Derived.Laws.StructEq
import Derived.ProofKit
import Derived.OpenShut
import Derived.ShutString
import Derived.ChangeOld
import Derived.SliceStrings
import Derived.Deep.Matrix
import Derived.Test.YtoggmplkbiidhaaDoorRows
import Derived.WideShapes
import Derived.LaidMore
import Derived.Stop.Joined
/- Plain: a queue of jobs: what each call does with the jobs. -/
namespace Go.Proofs.YtoggmplkbiidhaaDoor
set_option linter.all false
/-- An act of the law. -/
structure JAct where
  (what : Nat)
  (id prio : Int)
  (client token text : List UInt8)
/-- One of the calls of the queue: its error, and what it leaves. -/
noncomputable def Qst.call (x : Qst) (a : JAct) : Int × Qst :=
  if a.what % 14 = 0 ∨ a.what % 14 = 1 then ((x.submit a.client a.token a.prio a.text).1.2, (x.submit a.client a.token a.prio a.text).2)
  else if a.what % 14 = 2 ∨ a.what % 14 = 3 then (x.take.1.2.2, x.take.2)
  else if a.what % 14 = 4 then x.save a.id a.text
  else if a.what % 14 = 5 then x.give a.id
  else if a.what % 14 = 6 then x.finish a.id 3 a.text
  else if a.what % 14 = 7 then x.finish a.id 4 a.text
  else if a.what % 14 = 8 then x.cancel a.id
  else if a.what % 14 = 9 then x.forget a.id
  else if a.what % 14 = 10 then x.compact
  else (0, x)
structure Kept (k9 : Prop) (x x' : Qst) : Prop where
  (up : x'.up)
  (job : ∀ j ∈ x.q.jobs, (∃ j' ∈ x'.q.jobs, j'.id = j.id ∧ (endedB j.state = true → j' = j)) ∨ (k9 ∧ endedB j.state = true ∧ ∀ j' ∈ x'.q.jobs, j'.id ≠ j.id))
  (len1 : x'.q.jobs.length ≤ x.q.jobs.length + 1)
  (len2 : x.q.jobs.length ≤ x'.q.jobs.length + 1)
theorem kept_same {k9 : Prop} {x x' : Qst} (hu : x'.up) (h : x'.q = x.q) : Kept k9 x x' :=
  ⟨hu, fun j hj => .inl ⟨j, by rw [h]; exact hj, rfl, fun _ => rfl⟩, by rw [h]; omega, by rw [h]; omega⟩
theorem kept_put {k9 : Prop} {x x' : Qst} {k : Nat} {j j' : Jb} (hu : x'.up) (hj : x.q.jobs[k]? = some j) (hid : j'.id = j.id) (he : endedB j.state = false) (h : x'.q = x.q.put k j') : Kept k9 x x' := by
  have hk := (List.getElem?_eq_some_iff.1 hj).1
  have hl : x'.q.jobs.length = x.q.jobs.length := by rw [h]; exact List.length_set
  refine ⟨hu, fun y hy => ?_, by omega, by omega⟩
  obtain ⟨i, hi⟩ := List.getElem?_of_mem hy
  left
  by_cases hik : k = i
  · subst hik
    obtain rfl : j = y := Option.some.inj (hj.symm.trans hi)
    refine ⟨j', ?_, hid, fun e => by rw [he] at e; cases e⟩
    rw [h]
    exact List.mem_of_getElem? (i := k) (by show (x.q.jobs.set k j')[k]? = some j'; rw [List.getElem?_set_self hk])
  · refine ⟨y, ?_, rfl, fun _ => rfl⟩
    rw [h]
    exact List.mem_of_getElem? (i := i) (by show (x.q.jobs.set k j')[i]? = some y; rw [List.getElem?_set_ne hik]; exact hi)
theorem kept_push {k9 : Prop} {x x' : Qst} {j : Jb} (hu : x'.up) (h : x'.q.jobs = x.q.jobs ++ [j]) : Kept k9 x x' := by
  have hl : x'.q.jobs.length = x.q.jobs.length + 1 := by rw [h, List.length_append, List.length_singleton]
  exact ⟨hu, fun y hy => .inl ⟨y, by rw [h]; exact List.mem_append_left _ hy, rfl, fun _ => rfl⟩, by omega, by omega⟩
theorem kept_erase {k9 : Prop} {x x' : Qst} {k : Nat} {j : Jb} (hx : x.q.fine) (hu : x'.up) (hj : x.q.jobs[k]? = some j) (he : endedB j.state = true) (h9 : k9) (h : x'.q.jobs = x.q.jobs.eraseIdx k) : Kept k9 x x' := by
  have hk := (List.getElem?_eq_some_iff.1 hj).1
  have hl : x'.q.jobs.length = x.q.jobs.length - 1 := by rw [h, List.length_eraseIdx, if_pos hk]
  refine ⟨hu, fun y hy => ?_, by omega, by omega⟩
  obtain ⟨i, hi⟩ := List.getElem?_of_mem hy
  by_cases hik : i = k
  · subst hik
    obtain rfl : j = y := Option.some.inj (hj.symm.trans hi)
    refine .inr ⟨h9, he, fun z hz e => ?_⟩
    rw [h] at hz
    obtain ⟨m, hm⟩ := List.getElem?_of_mem hz
    rw [List.getElem?_eraseIdx] at hm
    have hp := List.pairwise_iff_getElem.1 hx.ok.asc
    obtain ⟨hi1, hi2⟩ := List.getElem?_eq_some_iff.1 hi
    split at hm
    · obtain ⟨h1, h2⟩ := List.getElem?_eq_some_iff.1 hm
      have := hp m i h1 hi1 (by omega)
      rw [h2, hi2] at this
      omega
    · obtain ⟨h1, h2⟩ := List.getElem?_eq_some_iff.1 hm
      have := hp i (m + 1) hi1 h1 (by omega)
      rw [h2, hi2] at this
      omega
  · refine .inl ⟨y, ?_, rfl, fun _ => rfl⟩
    rw [h]
    rcases Nat.lt_or_ge i k with hlt | hge
    · exact List.mem_of_getElem? (i := i) (by rw [List.getElem?_eraseIdx, if_pos hlt]; exact hi)
    · exact List.mem_of_getElem? (i := i - 1) (by rw [List.getElem?_eraseIdx, if_neg (by omega), show i - 1 + 1 = i by omega]; exact hi)
theorem get_mem {x : Qst} (hf : x.q.fine) (hd : x.down = false) {j : Jb} (hj : j ∈ x.q.jobs) : x.get (j.id : Int) = (j, 0) := by
  obtain ⟨k, hk⟩ := List.getElem?_of_mem hj
  have hat := at_get x.q hf.ok.asc k j hk
  unfold Qst.get
  rw [if_neg (by rw [hd]; simp)]
  have e : x.q.jobs.find? (fun y => decide ((y.id : Int) = (j.id : Int))) = some j := by
    rw [List.find?_eq_some_iff_getElem]
    obtain ⟨h1, h2⟩ := List.getElem?_eq_some_iff.1 hk
    refine ⟨by simp, k, h1, h2, fun i hi => ?_⟩
    have := List.pairwise_iff_getElem.1 hf.ok.asc i k (by omega) h1 hi
    rw [h2] at this
    simp; omega
  rw [e]
theorem get_none {x : Qst} (hd : x.down = false) {n : Nat} (h : ∀ j ∈ x.q.jobs, j.id ≠ n) : x.get (n : Int) = (Jb.none_, 4) := by
  unfold Qst.get
  rw [if_neg (by rw [hd]; simp)]
  have e : x.q.jobs.find? (fun y => decide ((y.id : Int) = (n : Int))) = none := by
    rw [List.find?_eq_none]
    intro j hj
    have := h j hj
    simp; omega
  rw [e]
theorem submit_kept {k9 : Prop} {x : Qst} (h : x.up) (c t : List UInt8) (p : Int) (work : List UInt8) : Kept k9 x (x.submit c t p work).2 ∧ ((x.submit c t p work).1.2 = 0 ∨ (x.submit c t p work).1.2 = 2 ∨ (x.submit c t p work).1.2 = 3 ∨ (x.submit c t p work).1.2 = 5) := by
  have hk : Kept k9 x x := kept_same h rfl
  unfold Qst.submit
  rw [if_neg (by rw [h.nd]; simp)]
  split
  · exact ⟨hk, by simp⟩
  rename_i hbad
  split
  · exact ⟨hk, by simp⟩
  rename_i hw
  split
  · exact ⟨hk, by simp⟩
  rename_i hn
  split
  · exact ⟨hk, by simp⟩
  rename_i hfull
  have hc : labelB c = true := by
    cases hl : labelB c with
    | true => rfl
    | false => exact absurd (.inl hl) hbad
  have ht : labelB t = true := by
    cases hl : labelB t with
    | true => rfl
    | false => exact absurd (.inr (.inl hl)) hbad
  have hp0 : ¬ p < 0 := fun q => hbad (.inr (.inr (.inl q)))
  have hp9 : ¬ 9 < p := fun q => hbad (.inr (.inr (.inr q)))
  have hlast := h.fine.ok.last
  have hjo : (Jb.mk (x.q.last + 1) c t p.toNat 1 0 work [] []).ok (x.q.last + 1) := ⟨by show 0 < x.q.last + 1; omega, Nat.le_refl _, by show p.toNat ≤ 9; omega, hc, ht, by show 0 ≤ 8; omega, by show 1 ≤ 1; omega, by show 1 ≤ 5; omega, by show work.length ≤ 60000; omega, by simp, by simp⟩
  have hfx : (Qs.mk (x.q.jobs ++ [Jb.mk (x.q.last + 1) c t p.toNat 1 0 work [] []]) (x.q.last + 1)).fine :=
    h.fine.push (j := Jb.mk (x.q.last + 1) c t p.toNat 1 0 work [] []) hjo ⟨by simp, by simp, by simp⟩ (by show x.q.last < x.q.last + 1; omega) (by show x.q.last + 1 < _; omega) hn (by omega)
  obtain ⟨n1, n2⟩ := noted_up h (subB (Jb.mk (x.q.last + 1) c t p.toNat 1 0 work [] [])) (by have := subB_len hjo; omega) _ hfx
  unfold Qst.noted at n1 n2
  dsimp only
  by_cases h0 : (x.note (subB (Jb.mk (x.q.last + 1) c t p.toNat 1 0 work [] []))).1 = 0
  · rw [if_pos h0] at n1 ⊢
    exact ⟨kept_push n1 rfl, .inl rfl⟩
  · rw [if_neg h0] at n1 n2 ⊢
    refine ⟨kept_same n1 rfl, ?_⟩
    rcases n2 with ⟨q, -⟩ | ⟨q, -⟩
    · exact absurd q h0
    · exact .inr (.inr (.inr q))
theorem take_kept {k9 : Prop} {x : Qst} (h : x.up) : Kept k9 x x.take.2 ∧ ((x.take.1.2.2 = 5 ∧ x.take.1.2.1 = false) ∨ (x.take.1.2.2 = 0 ∧ x.take.1.2.1 = false ∧ bestF x.q.jobs 0 none = none) ∨
    (x.take.1.2.2 = 0 ∧ x.take.1.2.1 = true ∧ ∃ k p j, bestF x.q.jobs 0 none = some (k, p) ∧ x.q.jobs[k]? = some j ∧ x.take.1.1 = { j with tries := j.tries + 1, state := 2 })) := by
  have hk : Kept k9 x x := kept_same h rfl
  have hbo := best_ok x.q.jobs
  unfold Qst.take
  rw [if_neg (by rw [h.nd]; simp)]
  cases hb : bestF x.q.jobs 0 none with
  | none => exact ⟨hk, .inr (.inl ⟨rfl, rfl, rfl⟩)⟩
  | some y =>
    obtain ⟨k, p⟩ := y
    obtain ⟨j, hj, -, hs1, ht8⟩ := hbo.get k p hb
    dsimp only
    rw [hj]
    dsimp only
    have hjo := h.fine.ok.job j (List.mem_of_getElem? hj)
    have hjf := h.fine.job j (List.mem_of_getElem? hj)
    have hen : endedB j.state = false := by rw [hs1]; rfl
    have hfx : (x.q.put k { j with tries := j.tries + 1, state := 2 }).fine := h.fine.put hj rfl rfl rfl ⟨hjo.id0, hjo.id1, hjo.prio, hjo.cl, hjo.tk, by show j.tries + 1 ≤ 8; omega, by show 1 ≤ 2; omega, by show 2 ≤ 5; omega, hjo.wk, hjo.pt, hjo.rs⟩ ⟨fun _ => Nat.succ_pos _, fun _ => Nat.succ_pos _, fun _ => hjf.rs0 hen⟩
    obtain ⟨n1, n2⟩ := noted_up h (recB 2 j.id) (by rw [recB_len]; omega) _ hfx
    unfold Qst.noted at n1 n2
    by_cases h0 : (x.note (recB 2 j.id)).1 = 0
    · rw [if_pos h0] at n1 ⊢
      exact ⟨kept_put (j' := { j with tries := j.tries + 1, state := 2 }) n1 hj rfl hen rfl, .inr (.inr ⟨rfl, rfl, k, p, j, rfl, hj, rfl⟩)⟩
    · rw [if_neg h0] at n1 n2 ⊢
      refine ⟨kept_same n1 rfl, .inl ⟨?_, rfl⟩⟩
      rcases n2 with ⟨q, -⟩ | ⟨q, -⟩
      · exact absurd q h0
      · exact q
theorem held_job2 {x : Qst} {id : Int} {n k : Nat} {j : Jb} (h : x.held id n = .inr (k, j)) : x.q.jobs[k]? = some j ∧ j.state = 2 ∧ n ≤ 60000 := by
  unfold Qst.held at h
  split at h
  · cases h
  split at h
  · cases h
  split at h
  · cases h
  rename_i k' _ j' hj'
  split at h
  · cases h
  rename_i h1
  split at h
  · cases h
  rename_i h2
  injection h with h
  injection h with h3 h4
  subst h3 h4
  exact ⟨hj', by simpa using h1, by omega⟩
theorem some_job2 {x : Qst} {id : Int} {o : Bool} {k : Nat} {j : Jb} (h : x.some_ id o = .inr (k, j)) : x.q.jobs[k]? = some j ∧ endedB j.state = o := by
  unfold Qst.some_ at h
  split at h
  · cases h
  split at h
  · cases h
  split at h
  · cases h
  rename_i k' _ j' hj'
  split at h
  · cases h
  rename_i h1
  injection h with h
  injection h with h3 h4
  subst h3 h4
  exact ⟨hj', by simpa using h1⟩
theorem over_kept {k9 : Prop} {x : Qst} (h : x.up) {k : Nat} {j : Jb} (hj : x.q.jobs[k]? = some j) (hen : endedB j.state = false) (st : Nat) (hst : 3 ≤ st ∧ st ≤ 5) (s : List UInt8) (hs : s.length ≤ 60000) : Kept k9 x (x.over k j st s).2 := by
  have hjo := h.fine.ok.job j (List.mem_of_getElem? hj)
  have hjf := h.fine.job j (List.mem_of_getElem? hj)
  have hfx : (x.q.put k { j with state := st, result := s }).fine := h.fine.put hj rfl rfl rfl ⟨hjo.id0, hjo.id1, hjo.prio, hjo.cl, hjo.tk, hjo.tr, by show 1 ≤ st; omega, hst.2, hjo.wk, hjo.pt, hs⟩ ⟨hjf.pt0, fun e => by dsimp only at e; omega, fun e => by have := not_ended e; dsimp only at this; omega⟩
  unfold Qst.over
  obtain ⟨n1, n2⟩ := noted_up h (overB j.id st s) (by rw [overB_len]; omega) _ hfx
  rcases n2 with ⟨-, q⟩ | ⟨-, q⟩
  · exact kept_put (j' := { j with state := st, result := s }) n1 hj rfl hen q
  · exact kept_same n1 q
theorem call_kept {x : Qst} (h : x.up) (a : JAct) : Kept (a.what % 14 = 9) x (x.call a).2 := by
  have hk : Kept (a.what % 14 = 9) x x := kept_same h rfl
  have h2e : ∀ {j : Jb}, j.state = 2 → endedB j.state = false := fun e => by rw [e]; rfl
  unfold Qst.call
  split
  · exact (submit_kept h _ _ _ _).1
  split
  · exact (take_kept h).1
  split
  · unfold Qst.save
    split
    · exact hk
    · rename_i k j hh
      obtain ⟨hj, hs2, hn⟩ := held_job2 hh
      have hjo := h.fine.ok.job j (List.mem_of_getElem? hj)
      have hjf := h.fine.job j (List.mem_of_getElem? hj)
      have hfx : (x.q.put k { j with point := a.text }).fine := h.fine.put hj rfl rfl rfl ⟨hjo.id0, hjo.id1, hjo.prio, hjo.cl, hjo.tk, hjo.tr, hjo.s1, hjo.s5, hjo.wk, hn, hjo.rs⟩ ⟨fun _ => hjf.st2 hs2, hjf.st2, hjf.rs0⟩
      obtain ⟨n1, n2⟩ := noted_up h (recB 3 j.id ++ textB a.text) (by rw [List.length_append, recB_len, textB_len]; omega) _ hfx
      rcases n2 with ⟨-, q⟩ | ⟨-, q⟩
      · exact kept_put (j' := { j with point := a.text }) n1 hj rfl (h2e hs2) q
      · exact kept_same n1 q
  split
  · unfold Qst.give
    split
    · exact hk
    · rename_i k j hh
      obtain ⟨hj, hs2, hn⟩ := held_job2 hh
      have hjo := h.fine.ok.job j (List.mem_of_getElem? hj)
      have hjf := h.fine.job j (List.mem_of_getElem? hj)
      have hfx : (x.q.put k { j with state := 1 }).fine := h.fine.put hj rfl rfl rfl ⟨hjo.id0, hjo.id1, hjo.prio, hjo.cl, hjo.tk, hjo.tr, by show 1 ≤ 1; omega, by show 1 ≤ 5; omega, hjo.wk, hjo.pt, hjo.rs⟩ ⟨hjf.pt0, fun e => by dsimp only at e; omega, fun _ => hjf.rs0 (h2e hs2)⟩
      exact kept_put (j' := { j with state := 1 }) ⟨hfx, h.free, h.nd⟩ hj rfl (h2e hs2) rfl
  split
  · unfold Qst.finish
    split
    · exact hk
    · rename_i k j hh
      obtain ⟨hj, hs2, hn⟩ := held_job2 hh
      exact over_kept h hj (h2e hs2) 3 (by omega) _ hn
  split
  · unfold Qst.finish
    split
    · exact hk
    · rename_i k j hh
      obtain ⟨hj, hs2, hn⟩ := held_job2 hh
      exact over_kept h hj (h2e hs2) 4 (by omega) _ hn
  split
  · unfold Qst.cancel
    split
    · exact hk
    · rename_i k j hh
      obtain ⟨hj, hs2⟩ := some_job2 hh
      exact over_kept h hj hs2 5 (by omega) _ (by simp)
  split
  · rename_i h9
    unfold Qst.forget
    split
    · exact hk
    · rename_i k j hh
      obtain ⟨hj, hs2⟩ := some_job2 hh
      obtain ⟨n1, n2⟩ := noted_up h (recB 5 j.id) (by rw [recB_len]; omega) _ (h.fine.erase k)
      rcases n2 with ⟨-, q⟩ | ⟨-, q⟩
      · exact kept_erase h.fine n1 hj hs2 h9 (by rw [q])
      · exact kept_same n1 q
  split
  · unfold Qst.compact
    rw [if_neg (by rw [h.nd]; simp)]
    obtain ⟨b1, b2⟩ := rewritten_free h.free x.q.short (short_long h.fine.ok)
    exact kept_same ⟨h.fine, b1, by show decide ((x.d.rewritten x.q.short).1 = 9) = false; rw [decide_eq_false_iff_not]; omega⟩ rfl
  · exact hk
end Go.Proofs.YtoggmplkbiidhaaDoor

/- Laws of the jobs: the acts; are they more than is looked at? -/
namespace Go.Proofs.YtoggmplkbiidhaaDoor
set_option linter.all false
open Go.RowKit Go.Shelf
/-- An act lies in a world. -/
structure JActAt (w : World) (b off : Nat) (x : JAct) : Prop where
  (c0 : w.cell? ⟨b, off, none⟩ = some (.int .u8 (x.what : Int)))
  (c1 : w.cell? ⟨b, off + 1, none⟩ = some (.int .i64 x.id))
  (c2 : w.cell? ⟨b, off + 2, none⟩ = some (.int .i64 x.prio))
  (c3 : w.cell? ⟨b, off + 3, none⟩ = some (.string (bytesOf x.client)))
  (c4 : w.cell? ⟨b, off + 4, none⟩ = some (.string (bytesOf x.token)))
  (c5 : w.cell? ⟨b, off + 5, none⟩ = some (.string (bytesOf x.text)))
structure JAct.wf (x : JAct) : Prop where
  (w0 : x.what < 256)
  (w1 : -9223372036854775808 ≤ x.id ∧ x.id ≤ 9223372036854775807)
  (w2 : -9223372036854775808 ≤ x.prio ∧ x.prio ≤ 9223372036854775807)
def JActsAt (w : World) (B : Nat) (a : Option Addr) (l : List JAct) : Prop :=
  ∀ (j : Nat) (x : JAct), l[j]? = some x → ∃ b off, a = some ⟨b, off, none⟩ ∧ b < B ∧ JActAt w b (off + j * 6) x ∧ x.wf
theorem JActAt.below {w w' : World} {B b off : Nat} {x : JAct} (h : JActAt w b off x) (hb : Below B w w') (hB : b < B) : JActAt w' b off x :=
  ⟨(hb.cell (p := ⟨b, _, none⟩) hB).trans h.c0, (hb.cell (p := ⟨b, _, none⟩) hB).trans h.c1, (hb.cell (p := ⟨b, _, none⟩) hB).trans h.c2, (hb.cell (p := ⟨b, _, none⟩) hB).trans h.c3, (hb.cell (p := ⟨b, _, none⟩) hB).trans h.c4, (hb.cell (p := ⟨b, _, none⟩) hB).trans h.c5⟩
theorem JActsAt.below {w w' : World} {B : Nat} {a : Option Addr} {l : List JAct} (h : JActsAt w B a l) (hb : Below B w w') : JActsAt w' B a l := fun j x hx => by
  obtain ⟨b, off, h1, h2, h3, h4⟩ := h j x hx
  exact ⟨b, off, h1, h2, h3.below hb h2, h4⟩
def longJ (x : JAct) : Bool := decide (100 < x.client.length) || (decide (100 < x.token.length) || ((decide (300 < x.text.length) && decide (x.text.length ≤ 60000)) || decide (70000 < x.text.length)))
def beyondB (l : List JAct) : Bool := l.any longJ || decide (80 < l.length)
set_option maxRecDepth 100000 in
set_option maxHeartbeats 4000000 in
theorem beyond_any (l : List JAct) (a : Option Addr) (cap : Nat) (hl : l.length ≤ maxLen) (w : World) (h : JActsAt w w.heap.size a l) :
    Calls Tryd.prog 6 #[.slice a l.length cap] w fun e w' => e = .returned (.bool (beyondB l)) ∧ w' = w := by
  obtain ⟨R, hR⟩ : ∃ R, R = beyondB l := ⟨_, rfl⟩
  rw [← hR]
  obtain ⟨n, hn⟩ : ∃ n, n = l.length := ⟨_, rfl⟩
  rw [← hn] at hl ⊢
  have hn63 : n ≤ 9223372036854775807 := hl
  have HR := Lib.hid hR
  have HN := Lib.hid hn
  have HA := Lib.hid h
  clear hR hn h hl
  go_enter Tryd.func6, Tryd.ntmps6
  go_wp2_with fail
  go_loop [3] (fun iv => ∃ k : Nat, k ≤ n ∧ iv = .int .i64 (k : Int) ∧ Hid (∀ x ∈ l.take k, longJ x = false)) (fun iv => n - (intOf iv).toNat)
  case atStart => exact ⟨0, Nat.zero_le _, rfl, fun x hx => by simp at hx⟩
  case round =>
    obtain ⟨k, hk, rfl, hS⟩ := hrel
    by_cases hlt : k < n
    · obtain ⟨x, hx⟩ : ∃ x, l[k]? = some x := ⟨l[k]'(by rw [← HN.out]; exact hlt), List.getElem?_eq_getElem _⟩
      obtain ⟨b, off, rfl, hb, ha, hw⟩ := HA.out k x hx
      obtain ⟨c0, -, -, c3, c4, c5⟩ := ha
      have z3 : (bytesOf x.client).size = x.client.length := bytesOf_size _
      have z4 : (bytesOf x.token).size = x.token.length := bytesOf_size _
      have z5 : (bytesOf x.text).size = x.text.length := bytesOf_size _
      have hlong : longJ x = true → R = true := fun h => by
        rw [HR.out]; unfold beyondB
        rw [List.any_eq_true.2 ⟨x, List.mem_of_getElem? hx, h⟩]; rfl
      have hnext : longJ x = false → ∀ y ∈ l.take (k + 1), longJ y = false := fun h y hy => by
        rw [List.take_add_one, hx] at hy
        rcases List.mem_append.1 hy with hy | hy
        · exact hS.out y hy
        · simp at hy; rw [hy]; exact h
      have HLG := Lib.hid hlong
      have HNX := Lib.hid hnext
      clear hlong hnext hx hw hb c0
      unfold longJ at HLG HNX
      by_cases hA : 100 < x.client.length
      · have hA' : (100 : Int) < (x.client.length : Int) := by omega
        obtain rfl : R = true := HLG.out (by simp [hA])
        clear hA HLG HNX
        go_wp2_with fail
        go_ret
        exact ⟨rfl, rfl⟩
      have hA' : ¬ (100 : Int) < (x.client.length : Int) := by omega
      by_cases hT : 100 < x.token.length
      · have hT' : (100 : Int) < (x.token.length : Int) := by omega
        obtain rfl : R = true := HLG.out (by simp [hT])
        clear hA hT HLG HNX
        go_wp2_with fail
        go_ret
        exact ⟨rfl, rfl⟩
      have hT' : ¬ (100 : Int) < (x.token.length : Int) := by omega
      by_cases hC : 300 < x.text.length
      · have hC' : (300 : Int) < (x.text.length : Int) := by omega
        by_cases hD : x.text.length ≤ 60000
        · have hD' : (x.text.length : Int) ≤ 60000 := by omega
          obtain rfl : R = true := HLG.out (by simp [hC, hD])
          clear hA hT hC hD HLG HNX
          go_wp2_with fail
          go_ret
          exact ⟨rfl, rfl⟩
        have hD' : ¬ (x.text.length : Int) ≤ 60000 := by omega
        by_cases hE : 70000 < x.text.length
        · have hE' : (70000 : Int) < (x.text.length : Int) := by omega
          obtain rfl : R = true := HLG.out (by simp [hE])
          clear hA hT hC hD hE HLG HNX
          go_wp2_with fail
          go_ret
          exact ⟨rfl, rfl⟩
        have hE' : ¬ (70000 : Int) < (x.text.length : Int) := by omega
        have HNX2 := Lib.hid (HNX.out (by simp [hA, hT, hC, hD, hE]))
        clear hA hT hC hD hE HLG HNX
        go_wp2_with fail
        go_round
        case rel => exact ⟨k + 1, by omega, by go_num, HNX2.out⟩
        case measure => simp [intOf]; omega
      · have hC' : ¬ (300 : Int) < (x.text.length : Int) := by omega
        have hE : ¬ 70000 < x.text.length := by omega
        have hE' : ¬ (70000 : Int) < (x.text.length : Int) := by omega
        have HNX2 := Lib.hid (HNX.out (by simp [hA, hT, hC, hE]))
        clear hA hT hC hE HLG HNX
        go_wp2_with fail
        go_round
        case rel => exact ⟨k + 1, by omega, by go_num, HNX2.out⟩
        case measure => simp [intOf]; omega
    · obtain rfl : k = n := by omega
      have hno : l.any longJ = false := by
        rw [List.any_eq_false]
        intro x hx
        have := hS.out x (by rw [HN.out, List.take_length]; exact hx)
        rw [this]; simp
      by_cases h80 : 80 < k
      · have h80' : (80 : Int) < (k : Int) := by omega
        obtain rfl : R = true := by rw [HR.out]; unfold beyondB; rw [← HN.out, decide_eq_true h80]; simp
        clear h80 hno
        go_wp2_with fail
        go_ret
        exact ⟨rfl, rfl⟩
      · have h80' : ¬ (80 : Int) < (k : Int) := by omega
        obtain rfl : R = false := by rw [HR.out]; unfold beyondB; rw [← HN.out, hno, decide_eq_false h80]; rfl
        clear h80 hno
        go_wp2_with fail
        go_ret
        exact ⟨rfl, rfl⟩
end Go.Proofs.YtoggmplkbiidhaaDoor

/- Plain: a queue of jobs: the calls that every law shows. -/
namespace Go.Proofs.YtoggmplkbiidhaaDoor
set_option linter.all false
theorem note_room {x : Qst} (h : x.up) (s : List UInt8) (hs : s.length ≤ 65535) (hfit : x.d.used + 13 + s.length ≤ x.d.size) :
    (x.note s).1 = 0 ∧ (x.note s).2.q = x.q ∧ (x.note s).2.d.used = x.d.used + 13 + s.length ∧ (x.note s).2.d.size = x.d.size ∧ (x.note s).2.up := by
  have h0 := appended_ok h.free.good s h.free.nf hs hfit (.inl h.free.fu)
  have hp := appended_post h.free.good s
  obtain ⟨f1, -⟩ := appended_free h.free s hs
  have e : noteD x.q x.d s = x.d.appended s := by unfold noteD; rw [if_neg (by rw [h0]; decide)]
  have e1 : (x.note s).1 = 0 := by show (noteD x.q x.d s).1 = 0; rw [e]; exact h0
  have e2 : (x.note s).2.d = (x.d.appended s).2 := by show (noteD x.q x.d s).2 = _; rw [e]
  refine ⟨e1, rfl, by rw [e2]; exact (hp.ok0 h0).2.1, by rw [e2]; exact hp.size, ⟨h.fine, by rw [e2]; exact f1, ?_⟩⟩
  show (x.down || decide ((noteD x.q x.d s).1 = 9)) = false
  rw [h.nd, e, h0]; rfl
/-- What a call with enough room leaves. -/
structure Room (x : Qst) (used : Nat) (q : Qs) : Prop where
  (up : x.up)
  (q_ : x.q = q)
  (used_ : x.d.used ≤ used)
  (size : x.d.size = 4000)
theorem room_noted {x : Qst} {u : Nat} {q : Qs} (h : Room x u q) (s : List UInt8) (hs : u + 13 + s.length ≤ 4000) (q' : Qs) (hq : q'.fine) : (x.noted s q').1 = 0 ∧ Room (x.noted s q').2 (u + 13 + s.length) q' := by
  obtain ⟨n1, n2, n3, n4, n5⟩ := note_room h.up s (by omega) (by have := h.used_; have := h.size; omega)
  unfold Qst.noted
  rw [if_pos n1]
  exact ⟨rfl, ⟨hq, n5.free, n5.nd⟩, rfl, by have := h.used_; show (x.note s).2.d.used ≤ _; omega, by show (x.note s).2.d.size = 4000; rw [n4]; exact h.size⟩
def jA : Jb := ⟨1, [97], [116], 3, 1, 0, [119], [], []⟩
def jB : Jb := ⟨2, [97], [117], 5, 1, 0, [119], [], []⟩
def jB2 : Jb := ⟨2, [97], [117], 5, 2, 1, [119], [], []⟩
def jB3 : Jb := ⟨2, [97], [117], 5, 3, 1, [119], [], [100, 111, 110, 101]⟩
theorem jA_ok (n : Nat) (h : 1 ≤ n) : jA.ok n := ⟨by decide, h, by decide, by decide, by decide, by decide, by decide, by decide, by decide, by decide, by decide⟩
theorem jB_ok (n : Nat) (h : 2 ≤ n) : jB.ok n := ⟨by decide, h, by decide, by decide, by decide, by decide, by decide, by decide, by decide, by decide, by decide⟩
theorem jB2_ok (n : Nat) (h : 2 ≤ n) : jB2.ok n := ⟨by decide, h, by decide, by decide, by decide, by decide, by decide, by decide, by decide, by decide, by decide⟩
theorem jB3_ok (n : Nat) (h : 2 ≤ n) : jB3.ok n := ⟨by decide, h, by decide, by decide, by decide, by decide, by decide, by decide, by decide, by decide, by decide⟩
def qA : Qs := ⟨[jA], 1⟩
def qB : Qs := ⟨[jA, jB], 2⟩
def qC : Qs := ⟨[jA, jB2], 2⟩
def qD : Qs := ⟨[jA, jB3], 2⟩
theorem qA_fine : qA.fine := Qs.fine.nil.push (j := jA) (jA_ok 1 (by omega)) ⟨by decide, by decide, by decide⟩ (by decide) (by decide) rfl (by decide)
theorem qB_fine : qB.fine := qA_fine.push (j := jB) (jB_ok 2 (by omega)) ⟨by decide, by decide, by decide⟩ (by decide) (by decide) (by unfold qA Qs.named jA jB; simp) (by decide)
theorem qC_fine : qC.fine := qB_fine.put (k := 1) (j := jB) (j' := jB2) rfl rfl rfl rfl (jB2_ok 2 (by omega)) ⟨by decide, by decide, by decide⟩
theorem qD_fine : qD.fine := qC_fine.put (k := 1) (j := jB2) (j' := jB3) rfl rfl rfl rfl (jB3_ok 2 (by omega)) ⟨by decide, by decide, by decide⟩
theorem show_new : Room ⟨⟨[], 0⟩, newDk 4000, false⟩ 17 ⟨[], 0⟩ ∧ openD (newDk 4000) = .inr ⟨[], 0⟩ := by
  obtain ⟨h1, h2, h3, h4⟩ := newDk_post 4000 (by omega) (by omega)
  refine ⟨⟨⟨Qs.fine.nil, ⟨h1, rfl, rfl⟩, rfl⟩, rfl, by show (newDk 4000).used ≤ 17; omega, rfl⟩, ?_⟩
  unfold openD
  have hs : (newDk 4000).seenErr = 0 := by unfold Dk.seenErr; rw [if_neg (by have := h1.half; omega)]
  rw [if_neg (by rw [hs]; simp), h2]
  rfl
theorem submit_new {x : Qst} {u : Nat} {q : Qs} (h : Room x u q) (c t work : List UInt8) (p : Nat) (hc : labelB c = true) (ht : labelB t = true) (hp : p ≤ 9) (hw : work.length ≤ 60000) (hn : q.named c t = none) (hl : q.jobs.length < 100) (hm : q.last < 9223372036854775807)
    (hf : (Qs.mk (q.jobs ++ [⟨q.last + 1, c, t, p, 1, 0, work, [], []⟩]) (q.last + 1)).fine) (hfit : u + 13 + (subB ⟨q.last + 1, c, t, p, 1, 0, work, [], []⟩).length ≤ 4000) :
    ∃ x', x.submit c t (p : Int) work = ((q.last + 1, 0), x') ∧ Room x' (u + 13 + (subB ⟨q.last + 1, c, t, p, 1, 0, work, [], []⟩).length) ⟨q.jobs ++ [⟨q.last + 1, c, t, p, 1, 0, work, [], []⟩], q.last + 1⟩ := by
  have hq := h.q_
  obtain ⟨r1, r2⟩ := room_noted h (subB ⟨q.last + 1, c, t, p, 1, 0, work, [], []⟩) hfit _ hf
  refine ⟨_, ?_, r2⟩
  unfold Qst.noted at *
  obtain ⟨n1, -⟩ := note_room h.up (subB ⟨q.last + 1, c, t, p, 1, 0, work, [], []⟩) (by omega) (by have := h.used_; have := h.size; omega)
  rw [if_pos n1]
  unfold Qst.submit
  rw [hq, if_neg (by rw [h.up.nd]; simp), if_neg (by rw [hc, ht]; simp; omega), if_neg (by omega), hn]
  dsimp only
  rw [if_neg (by omega), Int.toNat_natCast, if_pos n1]
theorem show_all : ∃ x1 x2 x4 x5 : Qst, (Qst.mk ⟨[], 0⟩ (newDk 4000) false).submit [97] [116] 3 [119] = ((1, 0), x1) ∧ x1.submit [97] [117] 5 [119] = ((2, 0), x2) ∧ x2.submit [97] [116] 0 [] = ((1, 0), x2) ∧
    x2.take = ((jB2, true, 0), x4) ∧ x4.save 1 [120] = (2, x4) ∧ x4.finish 2 3 [100, 111, 110, 101] = (0, x5) ∧ x5.list.length = 2 := by
  obtain ⟨r0, -⟩ := show_new
  obtain ⟨x1, s1, r1⟩ := submit_new r0 [97] [116] [119] 3 (by decide) (by decide) (by decide) (by decide) rfl (by decide) (by decide) qA_fine (by decide)
  obtain ⟨x2, s2, r2⟩ := submit_new r1 [97] [117] [119] 5 (by decide) (by decide) (by decide) (by decide) (by unfold Qs.named; simp) (by decide) (by decide) qB_fine (by decide)
  have hq2 : x2.q = qB := r2.q_
  have hbest : bestF qB.jobs 0 none = some (1, 5) := by
    show bestF [jA, jB] 0 none = _
    rw [bestF_cons, bestF_cons]
    unfold stepF jA jB
    simp [bestF]
  obtain ⟨n1, t4⟩ := room_noted r2 (recB 2 2) (by decide) qC qC_fine
  have t4' : (x2.note (recB 2 2)).1 = 0 := by
    unfold Qst.noted at n1
    split at n1
    · assumption
    · exact n1
  have s4 : x2.take = ((jB2, true, 0), (x2.noted (recB 2 2) qC).2) := by
    unfold Qst.take
    rw [hq2, hbest, if_neg (by rw [r2.up.nd]; simp)]
    show (if (x2.note (recB 2 2)).1 = 0 then _ else _) = _
    unfold Qst.noted
    rw [if_pos t4', if_pos t4']
    rfl
  have hq4 : (x2.noted (recB 2 2) qC).2.q = qC := t4.q_
  have nd4 := t4.up.nd
  obtain ⟨n5, t5⟩ := room_noted t4 (overB 2 3 [100, 111, 110, 101]) (by decide) qD qD_fine
  refine ⟨x1, x2, (x2.noted (recB 2 2) qC).2, ((x2.noted (recB 2 2) qC).2.noted (overB 2 3 [100, 111, 110, 101]) qD).2, s1, s2, ?_, s4, ?_, ?_, ?_⟩
  · unfold Qst.submit
    rw [hq2, if_neg (by rw [r2.up.nd]; simp), if_neg (by decide), if_neg (by decide)]
    have : qB.named [97] [116] = some 0 := by unfold Qs.named qB jA jB; simp [List.findIdx?_cons]
    rw [this]; rfl
  · generalize (x2.noted (recB 2 2) qC).2 = x4 at hq4 nd4
    unfold Qst.save Qst.held
    rw [hq4, if_neg (by rw [nd4]; simp)]
    have : qC.jobs.findIdx? (fun j => decide ((j.id : Int) = 1)) = some 0 := by unfold qC jA jB2; simp [List.findIdx?_cons]
    rw [this]; rfl
  · generalize (x2.noted (recB 2 2) qC).2 = x4 at hq4 nd4 n5
    unfold Qst.finish Qst.held
    rw [hq4, if_neg (by rw [nd4]; simp)]
    have : qC.jobs.findIdx? (fun j => decide ((j.id : Int) = 2)) = some 1 := by unfold qC jA jB2; simp [List.findIdx?_cons]
    rw [this]
    show x4.over 1 jB2 3 _ = _
    unfold Qst.over
    rw [hq4]
    show x4.noted (overB 2 3 [100, 111, 110, 101]) qD = _
    exact Prod.ext n5 rfl
  · unfold Qst.list
    rw [if_neg (by rw [t5.up.nd]; simp), t5.q_]
    rfl
end Go.Proofs.YtoggmplkbiidhaaDoor

/- Laws of the jobs: what every law shows. -/
namespace Go.Proofs.YtoggmplkbiidhaaDoor
set_option linter.all false
open Go.RowKit Go.Shelf
set_option maxRecDepth 100000 in
set_option maxHeartbeats 4000000 in
theorem shown_any (w : World) (ht : TabAt w) : Calls Tryd.prog 7 #[] w fun e w' => e = .returned (.bool true) ∧ Below w.heap.size w w' := by
  obtain ⟨x1, x2, x4, x5, s1, s2, s3, s4, s5, s6, s7⟩ := show_all
  obtain ⟨-, ho⟩ := show_new
  have hok : (newDk 4000).ok := (newDk_post 4000 (by omega) (by omega)).1.ok
  have HN := Lib.hid (New_any 4000 (by omega) (by omega) w)
  have HT := Lib.hid ht
  have HOK := Lib.hid hok
  have HO := Lib.hid ho
  have H1 := Lib.hid s1
  have H2 := Lib.hid s2
  have H3 := Lib.hid s3
  have H4 := Lib.hid s4
  have H5 := Lib.hid s5
  have H6 := Lib.hid s6
  have H7 := Lib.hid s7
  clear s1 s2 s3 s4 s5 s6 s7 ht hok ho
  go_enter Tryd.func7, Tryd.ntmps7
  go_wp2_with fail
  refine (show Calls Tryd.prog 8 #[.int .i64 4000] w _ from HN.out).mono ?_
  rintro e wa ⟨⟨dp, b0, b1, rfl, hd, hp1, hp2, hp3⟩, hba⟩
  have HOP := Lib.hid (Open_any dp b0 b1 (newDk 4000) wa hd HOK.out (HT.out.block (hba.block _ HT.out.lt)))
  have HBA := Lib.hid hba
  have HPP : Hid (w.heap.size ≤ dp ∧ w.heap.size ≤ b0 ∧ w.heap.size ≤ b1) := Lib.hid ⟨hp1, hp2, hp3⟩
  rw [HO.out] at HOP
  clear hd hba hp1 hp2 hp3 HN
  go_wp2_with fail
  refine HOP.out.mono ?_
  rintro e wb ⟨hop, hbb⟩
  unfold OpenP at hop
  dsimp only at hop
  obtain ⟨p, v, rfl, hpp, hqd, hvv⟩ := hop
  have hsz := HBA.out.size
  have HB0 : Hid (Below w.heap.size w wb ∧ ∀ k, Mine ⟨p, dp, b0, b1⟩ v k → w.heap.size ≤ k) := Lib.hid ⟨HBA.out.trans (hbb.mono hsz), fun k hm => by
    obtain ⟨h1, h2, h3⟩ := HPP.out
    rcases hm with e | e | e | e | e
    · have : k = p := e
      omega
    · have : k = dp := e
      omega
    · have : k = b0 := e
      omega
    · have : k = b1 := e
      omega
    · have := hvv k e; omega⟩
  have HQ0 := Lib.hid hqd
  have HS1 := Lib.hid (Submit_did ⟨p, dp, b0, b1⟩ v _ [97] [116] 3 [119] wb hqd)
  rw [H1.out] at HS1
  clear hbb hqd hpp hvv hsz
  go_wp2_with fail
  refine (show Calls Tryd.prog 14 #[.pointer (some ⟨p, 0, none⟩), .string { data := #[97] }, .string { data := #[116] }, .int .i64 3, .string { data := #[119] }] wb _ from HS1.out).mono ?_
  rintro e wc ⟨rfl, v1, hq1, hs1⟩
  have HSt1 := Lib.hid hs1
  have HS2 := Lib.hid (Submit_did ⟨p, dp, b0, b1⟩ v1 _ [97] [117] 5 [119] wc hq1)
  rw [H2.out] at HS2
  clear hs1 hq1 HS1
  go_wp2_with fail
  refine (show Calls Tryd.prog 14 #[.pointer (some ⟨p, 0, none⟩), .string { data := #[97] }, .string { data := #[117] }, .int .i64 5, .string { data := #[119] }] wc _ from HS2.out).mono ?_
  rintro e wd ⟨rfl, v2, hq2, hs2⟩
  have HSt2 := Lib.hid (HSt1.out.trans hs2)
  have HS3 := Lib.hid (Submit_did ⟨p, dp, b0, b1⟩ v2 _ [97] [116] 0 [] wd hq2)
  rw [H3.out] at HS3
  clear hs2 hq2 HS2
  go_wp2_with fail
  refine (show Calls Tryd.prog 14 #[.pointer (some ⟨p, 0, none⟩), .string { data := #[97] }, .string { data := #[116] }, .int .i64 0, .string { data := #[] }] wd _ from HS3.out).mono ?_
  rintro e we ⟨rfl, v3, hq3, hs3⟩
  have HSt3 := Lib.hid (HSt2.out.trans hs3)
  have HS4 := Lib.hid (Take_did ⟨p, dp, b0, b1⟩ v3 _ we hq3)
  rw [H4.out] at HS4
  clear hs3 hq3 HS3
  go_wp2_with fail
  refine HS4.out.mono ?_
  rintro e wf ⟨rfl, v4, hq4, hs4⟩
  have HSt4 := Lib.hid (HSt3.out.trans hs4)
  have HQ4 := Lib.hid hq4
  clear hs4 hq4 HS4
  unfold Jb.val Jb.cells jB2 strV
  go_upto_region 9 with (fail)
  obtain ⟨W5, hW5⟩ : ∃ W, W = wf.alloc (.cells #[.int .i64 2, .string (bytesOf [97]), .string (bytesOf [117]), .int .i64 5, .int .i64 2, .int .i64 1, .string (bytesOf [119]), .string (bytesOf []), .string (bytesOf [])] 38) := ⟨_, rfl⟩
  have g5 : W5.heap[wf.heap.size]? = some (.cells #[.int .i64 2, .string (bytesOf [97]), .string (bytesOf [117]), .int .i64 5, .int .i64 2, .int .i64 1, .string (bytesOf [119]), .string (bytesOf []), .string (bytesOf [])] 38) := by rw [hW5]; exact alloc_last _ _ rfl
  have hb5 : Below wf.heap.size wf W5 := by rw [hW5]; exact (Below.refl _ wf).alloc (Nat.le_refl _) _
  have k0 : W5.cell? ⟨wf.heap.size, 0, none⟩ = some (.int .i64 2) := by simp [World.cell?, g5]
  have k5 : W5.cell? ⟨wf.heap.size, 5, none⟩ = some (.int .i64 1) := by simp [World.cell?, g5]
  have hq5 := HQ4.out.below hb5
  have HSt5 := Lib.hid (HSt4.out.below hb5)
  have HS5 := Lib.hid (Save_did ⟨p, dp, b0, b1⟩ v4 _ 1 [120] W5 hq5)
  rw [H5.out] at HS5
  rw [← hW5]
  clear hq5 hb5 g5 hW5
  go_wp2_with fail
  refine (show Calls Tryd.prog 15 #[.pointer (some ⟨p, 0, none⟩), .int .i64 1, .string { data := #[120] }] W5 _ from HS5.out).mono ?_
  rintro e wg ⟨rfl, v5, hq5, hs5⟩
  have HSt6 := Lib.hid (HSt5.out.trans hs5)
  have HS6 := Lib.hid (Finish_did ⟨p, dp, b0, b1⟩ v5 _ 2 [100, 111, 110, 101] wg hq5)
  rw [H6.out] at HS6
  clear hq5 hs5 HS5 k0 k5
  go_wp2_with fail
  refine (show Calls Tryd.prog 17 #[.pointer (some ⟨p, 0, none⟩), .int .i64 2, .string { data := #[100, 111, 110, 101] }] wg _ from HS6.out).mono ?_
  rintro e wh ⟨rfl, v6, hq6, hs6⟩
  have HSt7 := Lib.hid (HSt6.out.trans hs6)
  have HS7 := Lib.hid (List_did ⟨p, dp, b0, b1⟩ v6 _ wh hq6)
  clear hq6 hs6 HS6
  go_wp2_with fail
  refine HS7.out.mono ?_
  rintro e wi ⟨⟨u, rfl, hu⟩, hbi⟩
  rw [H7.out] at hu
  obtain ⟨gu, cu, rfl⟩ := World.owns.succ hu
  have HSt8 := Lib.hid (HSt7.out.below hbi)
  clear hu hbi HS7
  go_wp2_with fail
  go_ret
  refine ⟨rfl, HB0.out.1.trans (HSt8.out.kp.below HB0.out.1.size HB0.out.2)⟩
end Go.Proofs.YtoggmplkbiidhaaDoor

/- Laws of the jobs: one of the calls of the queue. Printed by gen_lj3.py. -/
namespace Go.Proofs.YtoggmplkbiidhaaDoor
set_option linter.all false
open Go.RowKit Go.Shelf
def JAct.val (a : JAct) : Value := .agg #[.int .u8 (a.what : Int), .int .i64 a.id, .int .i64 a.prio, .string (bytesOf a.client), .string (bytesOf a.token), .string (bytesOf a.text)]
set_option maxRecDepth 100000 in
set_option maxHeartbeats 4000000 in
theorem call_any (P : QP) (v : Value) (x : Qst) (a : JAct) (w : World) (h : QD P v x w) :
    Calls Tryd.prog 11 #[.pointer (some ⟨P.p, 0, none⟩), a.val] w fun e w' => Did P v (.int .i64 (x.call a).1) (x.call a).2 w e w' := by
  obtain ⟨R, hR⟩ : ∃ R, R = x.call a := ⟨_, rfl⟩
  rw [← hR]
  unfold Qst.call at hR
  obtain ⟨m, hm⟩ : ∃ m, m = a.what % 14 := ⟨_, rfl⟩
  rw [← hm] at hR
  have hm14 : m < 14 := by omega
  obtain ⟨b, hb⟩ : ∃ b, b = w.heap.size := ⟨_, rfl⟩
  obtain ⟨W1, hW1⟩ : ∃ W, W = w.alloc (.cells #[.int .u8 (a.what : Int), .int .i64 a.id, .int .i64 a.prio, .string (bytesOf a.client), .string (bytesOf a.token), .string (bytesOf a.text)] 35) := ⟨_, rfl⟩
  have g1 : W1.heap[b]? = some (.cells #[.int .u8 (a.what : Int), .int .i64 a.id, .int .i64 a.prio, .string (bytesOf a.client), .string (bytesOf a.token), .string (bytesOf a.text)] 35) := by rw [hW1, hb]; exact alloc_last _ _ rfl
  have hb1 : Below w.heap.size w W1 := by rw [hW1]; exact (Below.refl _ w).alloc (Nat.le_refl _) _
  have k0 : W1.cell? ⟨b, 0, none⟩ = some (.int .u8 (a.what : Int)) := by simp [World.cell?, g1]
  have k1 : W1.cell? ⟨b, 1, none⟩ = some (.int .i64 a.id) := by simp [World.cell?, g1]
  have k2 : W1.cell? ⟨b, 2, none⟩ = some (.int .i64 a.prio) := by simp [World.cell?, g1]
  have k3 : W1.cell? ⟨b, 3, none⟩ = some (.string (bytesOf a.client)) := by simp [World.cell?, g1]
  have k4 : W1.cell? ⟨b, 4, none⟩ = some (.string (bytesOf a.token)) := by simp [World.cell?, g1]
  have k5 : W1.cell? ⟨b, 5, none⟩ = some (.string (bytesOf a.text)) := by simp [World.cell?, g1]
  have HQ := Lib.hid (h.below hb1)
  have HST := Lib.hid (Stp.of_below (P := P) (v := v) hb1)
  have HW1 := Lib.hid hW1
  have HBW := Lib.hid hb
  have hmi : ((a.what : Int)).tmod 14 = (m : Int) := by
    rw [hm, Int.tmod_eq_emod_of_nonneg (by omega)]; omega
  have hmi2 : (a.what : Int) % 14 = (m : Int) := by omega
  have HR := Lib.hid hR
  clear g1 hb1 hW1 hb hR h hm
  unfold JAct.val
  by_cases h0 : m = 0
  · subst h0
    have hR := HR.out
    simp (decide := true) only [if_true, if_false, true_or, or_true] at hR
    have HR2 := Lib.hid hR
    have HC := Lib.hid (Submit_did P v x a.client a.token a.prio a.text W1 HQ.out)
    clear hR HR
    go_enter Tryd.func11, Tryd.ntmps11
    go_upto_region 1 with (fail)
    rw [← HW1.out, ← HBW.out]
    go_wp2_with fail
    refine HC.out.mono ?_
    rintro e w2 ⟨rfl, v2, hq2, hs2⟩
    have HQ2 := Lib.hid hq2
    have HS2 := Lib.hid (HST.out.trans hs2)
    clear hq2 hs2
    go_wp2_with fail
    go_ret
    rw [HR2.out]
    exact ⟨rfl, v2, HQ2.out, HS2.out⟩
  by_cases h1 : m = 1
  · subst h1
    have hR := HR.out
    simp (decide := true) only [if_true, if_false, true_or, or_true] at hR
    have HR2 := Lib.hid hR
    have HC := Lib.hid (Submit_did P v x a.client a.token a.prio a.text W1 HQ.out)
    clear hR HR
    go_enter Tryd.func11, Tryd.ntmps11
    go_upto_region 1 with (fail)
    rw [← HW1.out, ← HBW.out]
    go_wp2_with fail
    refine HC.out.mono ?_
    rintro e w2 ⟨rfl, v2, hq2, hs2⟩
    have HQ2 := Lib.hid hq2
    have HS2 := Lib.hid (HST.out.trans hs2)
    clear hq2 hs2
    go_wp2_with fail
    go_ret
    rw [HR2.out]
    exact ⟨rfl, v2, HQ2.out, HS2.out⟩
  by_cases h2 : m = 2
  · subst h2
    have hR := HR.out
    simp (decide := true) only [if_true, if_false, true_or, or_true] at hR
    have HR2 := Lib.hid hR
    have HC := Lib.hid (Take_did P v x W1 HQ.out)
    clear hR HR
    go_enter Tryd.func11, Tryd.ntmps11
    go_upto_region 1 with (fail)
    rw [← HW1.out, ← HBW.out]
    go_wp2_with fail
    refine HC.out.mono ?_
    rintro e w2 ⟨rfl, v2, hq2, hs2⟩
    have HQ2 := Lib.hid hq2
    have HS2 := Lib.hid (HST.out.trans hs2)
    clear hq2 hs2
    go_wp2_with fail
    go_ret
    rw [HR2.out]
    exact ⟨rfl, v2, HQ2.out, HS2.out⟩
  by_cases h3 : m = 3
  · subst h3
    have hR := HR.out
    simp (decide := true) only [if_true, if_false, true_or, or_true] at hR
    have HR2 := Lib.hid hR
    have HC := Lib.hid (Take_did P v x W1 HQ.out)
    clear hR HR
    go_enter Tryd.func11, Tryd.ntmps11
    go_upto_region 1 with (fail)
    rw [← HW1.out, ← HBW.out]
    go_wp2_with fail
    refine HC.out.mono ?_
    rintro e w2 ⟨rfl, v2, hq2, hs2⟩
    have HQ2 := Lib.hid hq2
    have HS2 := Lib.hid (HST.out.trans hs2)
    clear hq2 hs2
    go_wp2_with fail
    go_ret
    rw [HR2.out]
    exact ⟨rfl, v2, HQ2.out, HS2.out⟩
  by_cases h4 : m = 4
  · subst h4
    have hR := HR.out
    simp (decide := true) only [if_true, if_false, true_or, or_true] at hR
    have HR2 := Lib.hid hR
    have HC := Lib.hid (Save_did P v x a.id a.text W1 HQ.out)
    clear hR HR
    go_enter Tryd.func11, Tryd.ntmps11
    go_upto_region 1 with (fail)
    rw [← HW1.out, ← HBW.out]
    go_wp2_with fail
    refine HC.out.mono ?_
    rintro e w2 ⟨rfl, v2, hq2, hs2⟩
    have HQ2 := Lib.hid hq2
    have HS2 := Lib.hid (HST.out.trans hs2)
    clear hq2 hs2
    go_wp2_with fail
    go_ret
    rw [HR2.out]
    exact ⟨rfl, v2, HQ2.out, HS2.out⟩
  by_cases h5 : m = 5
  · subst h5
    have hR := HR.out
    simp (decide := true) only [if_true, if_false, true_or, or_true] at hR
    have HR2 := Lib.hid hR
    have HC := Lib.hid (Give_did P v x a.id W1 HQ.out)
    clear hR HR
    go_enter Tryd.func11, Tryd.ntmps11
    go_upto_region 1 with (fail)
    rw [← HW1.out, ← HBW.out]
    go_wp2_with fail
    refine HC.out.mono ?_
    rintro e w2 ⟨rfl, v2, hq2, hs2⟩
    have HQ2 := Lib.hid hq2
    have HS2 := Lib.hid (HST.out.trans hs2)
    clear hq2 hs2
    go_wp2_with fail
    go_ret
    rw [HR2.out]
    exact ⟨rfl, v2, HQ2.out, HS2.out⟩
  by_cases h6 : m = 6
  · subst h6
    have hR := HR.out
    simp (decide := true) only [if_true, if_false, true_or, or_true] at hR
    have HR2 := Lib.hid hR
    have HC := Lib.hid (Finish_did P v x a.id a.text W1 HQ.out)
    clear hR HR
    go_enter Tryd.func11, Tryd.ntmps11
    go_upto_region 1 with (fail)
    rw [← HW1.out, ← HBW.out]
    go_wp2_with fail
    refine HC.out.mono ?_
    rintro e w2 ⟨rfl, v2, hq2, hs2⟩
    have HQ2 := Lib.hid hq2
    have HS2 := Lib.hid (HST.out.trans hs2)
    clear hq2 hs2
    go_wp2_with fail
    go_ret
    rw [HR2.out]
    exact ⟨rfl, v2, HQ2.out, HS2.out⟩
  by_cases h7 : m = 7
  · subst h7
    have hR := HR.out
    simp (decide := true) only [if_true, if_false, true_or, or_true] at hR
    have HR2 := Lib.hid hR
    have HC := Lib.hid (Fail_did P v x a.id a.text W1 HQ.out)
    clear hR HR
    go_enter Tryd.func11, Tryd.ntmps11
    go_upto_region 1 with (fail)
    rw [← HW1.out, ← HBW.out]
    go_wp2_with fail
    refine HC.out.mono ?_
    rintro e w2 ⟨rfl, v2, hq2, hs2⟩
    have HQ2 := Lib.hid hq2
    have HS2 := Lib.hid (HST.out.trans hs2)
    clear hq2 hs2
    go_wp2_with fail
    go_ret
    rw [HR2.out]
    exact ⟨rfl, v2, HQ2.out, HS2.out⟩
  by_cases h8 : m = 8
  · subst h8
    have hR := HR.out
    simp (decide := true) only [if_true, if_false, true_or, or_true] at hR
    have HR2 := Lib.hid hR
    have HC := Lib.hid (Cancel_did P v x a.id W1 HQ.out)
    clear hR HR
    go_enter Tryd.func11, Tryd.ntmps11
    go_upto_region 1 with (fail)
    rw [← HW1.out, ← HBW.out]
    go_wp2_with fail
    refine HC.out.mono ?_
    rintro e w2 ⟨rfl, v2, hq2, hs2⟩
    have HQ2 := Lib.hid hq2
    have HS2 := Lib.hid (HST.out.trans hs2)
    clear hq2 hs2
    go_wp2_with fail
    go_ret
    rw [HR2.out]
    exact ⟨rfl, v2, HQ2.out, HS2.out⟩
  by_cases h9 : m = 9
  · subst h9
    have hR := HR.out
    simp (decide := true) only [if_true, if_false, true_or, or_true] at hR
    have HR2 := Lib.hid hR
    have HC := Lib.hid (Forget_did P v x a.id W1 HQ.out)
    clear hR HR
    go_enter Tryd.func11, Tryd.ntmps11
    go_upto_region 1 with (fail)
    rw [← HW1.out, ← HBW.out]
    go_wp2_with fail
    refine HC.out.mono ?_
    rintro e w2 ⟨rfl, v2, hq2, hs2⟩
    have HQ2 := Lib.hid hq2
    have HS2 := Lib.hid (HST.out.trans hs2)
    clear hq2 hs2
    go_wp2_with fail
    go_ret
    rw [HR2.out]
    exact ⟨rfl, v2, HQ2.out, HS2.out⟩
  by_cases h10 : m = 10
  · subst h10
    have hR := HR.out
    simp (decide := true) only [if_true, if_false, true_or, or_true] at hR
    have HR2 := Lib.hid hR
    have HC := Lib.hid (Compact_did P v x W1 HQ.out)
    clear hR HR
    go_enter Tryd.func11, Tryd.ntmps11
    go_upto_region 1 with (fail)
    rw [← HW1.out, ← HBW.out]
    go_wp2_with fail
    refine HC.out.mono ?_
    rintro e w2 ⟨rfl, v2, hq2, hs2⟩
    have HQ2 := Lib.hid hq2
    have HS2 := Lib.hid (HST.out.trans hs2)
    clear hq2 hs2
    go_wp2_with fail
    go_ret
    rw [HR2.out]
    exact ⟨rfl, v2, HQ2.out, HS2.out⟩
  have hR := HR.out
  rw [if_neg (by omega), if_neg (by omega), if_neg h4, if_neg h5, if_neg h6, if_neg h7, if_neg h8, if_neg h9, if_neg h10] at hR
  have HR2 := Lib.hid hR
  have e0 : ((m : Int) == 0) = false := by rw [beq_eq_false_iff_ne]; omega
  have e1 : ((m : Int) == 1) = false := by rw [beq_eq_false_iff_ne]; omega
  have e2 : ((m : Int) == 2) = false := by rw [beq_eq_false_iff_ne]; omega
  have e3 : ((m : Int) == 3) = false := by rw [beq_eq_false_iff_ne]; omega
  have e4 : ((m : Int) == 4) = false := by rw [beq_eq_false_iff_ne]; omega
  have e5 : ((m : Int) == 5) = false := by rw [beq_eq_false_iff_ne]; omega
  have e6 : ((m : Int) == 6) = false := by rw [beq_eq_false_iff_ne]; omega
  have e7 : ((m : Int) == 7) = false := by rw [beq_eq_false_iff_ne]; omega
  have e8 : ((m : Int) == 8) = false := by rw [beq_eq_false_iff_ne]; omega
  have e9 : ((m : Int) == 9) = false := by rw [beq_eq_false_iff_ne]; omega
  have e10 : ((m : Int) == 10) = false := by rw [beq_eq_false_iff_ne]; omega
  clear hR HR h0 h1 h2 h3 h4 h5 h6 h7 h8 h9 h10
  go_enter Tryd.func11, Tryd.ntmps11
  go_upto_region 1 with (fail)
  rw [← HW1.out, ← HBW.out]
  go_wp2_with fail
  go_ret
  rw [HR2.out]
  exact ⟨rfl, v, HQ.out, HST.out⟩
end Go.Proofs.YtoggmplkbiidhaaDoor

/- Laws of the jobs: jobs are compared. -/
namespace Go.Proofs.YtoggmplkbiidhaaDoor
set_option linter.all false
open Go.RowKit Go.Shelf
set_option maxRecDepth 100000 in
set_option maxHeartbeats 4000000 in
theorem job_equalIn (a b : Jb) (W : World) : (Op.equalIn 10000 38 a.val b.val).run Tryd.prog W = .ok (decide (a = b)) W := by
  unfold Jb.val
  rw [run_equalIn_agg W 9999 38 _ _ (by kernel_rfl) (by kernel_rfl)]
  unfold Jb.cells strV
  go_simp
  by_cases h : a = b
  · subst h
    simp
  · rw [decide_eq_false h]
    have inj : ∀ x y : List UInt8, (bytesOf x).toList = (bytesOf y).toList → x = y := fun x y e => bytesOf_inj (toList_inj e)
    repeat' split
    all_goals first
      | rfl
      | (exfalso
         rename_i h1 h2 h3 h4 h5 h6 h7 h8 h9
         refine h ?_
         obtain ⟨a1, a2, a3, a4, a5, a6, a7, a8, a9⟩ := a
         obtain ⟨b1, b2, b3, b4, b5, b6, b7, b8, b9⟩ := b
         dsimp only at *
         rw [show a1 = b1 by omega, inj _ _ h2, inj _ _ h3, show a4 = b4 by omega, show a5 = b5 by omega, show a6 = b6 by omega, inj _ _ h7, inj _ _ h8, inj _ _ h9])
theorem job_neq (a b : Jb) (W : World) : (binOp .neq 38 a.val b.val).run Tryd.prog W = .ok (.bool (!decide (a = b))) W := by
  have h := job_equalIn a b W
  unfold Jb.val at h ⊢
  rw [run_neq_struct, h]; rfl
theorem job_guard (op : BinOp) (x y : Operand) (a b : Jb) (W : World) : (eqGuard op 38 x y a.val b.val).run Tryd.prog W = .ok () W := by
  unfold Jb.val
  exact run_eqGuard_agg W op 38 x y _ _ (by kernel_rfl)
end Go.Proofs.YtoggmplkbiidhaaDoor

/- Laws of the jobs: what a call of the queue leaves alone. Printed by gen_lj5.py. -/
namespace Go.Proofs.YtoggmplkbiidhaaDoor
set_option linter.all false
open Go.RowKit Go.Shelf
/-- A list of jobs that a call of the queue leaves alone. -/
structure Aside (P : QP) (v u : Value) (js : List Jb) (W : World) : Prop where
  (ow : W.owns 0 38 9 u js.length (jobsL js))
  (na : ∀ k, u.ownBlock = some k → ¬ Mine P v k)
theorem mine_stp {P : QP} {v v' : Value} {W W' : World} (h : Stp P v v' W W') (k : Nat) (hk : k < W.heap.size) (hm : Mine P v' k) : Mine P v k := by
  rcases hm with e | e | e | e | e
  · exact .inl e
  · exact .inr (.inl e)
  · exact .inr (.inr (.inl e))
  · exact .inr (.inr (.inr (.inl e)))
  · rcases h.mv k e with e | e
    · exact .inr (.inr (.inr (.inr e)))
    · omega
theorem Aside.stp {P : QP} {v v' u : Value} {js : List Jb} {W W' : World} (h : Aside P v u js W) (hs : Stp P v v' W W') : Aside P v' u js W' :=
  ⟨World.owns.keptBy h.ow (fun g c fz hg hh => hs.kp.block g (lt_of_heap hh) (h.na g hg)), fun k e hm => h.na k e (mine_stp hs k (h.ow.lt k e).2 hm)⟩
theorem Aside.below {P : QP} {v u : Value} {js : List Jb} {W W' : World} (h : Aside P v u js W) (hb : Below W.heap.size W W') : Aside P v u js W' := h.stp (Stp.of_below hb)
/-- The queue of a law, behind B. -/
structure Ord (B : Nat) (P : QP) (v : Value) (x : Qst) (w W : World) : Prop where
  (qd : QD P v x W)
  (up : x.up)
  (bl : Below B w W)
  (mn : ∀ k, Mine P v k → B ≤ k)
  (le : B ≤ W.heap.size)
theorem Ord.below {B : Nat} {P : QP} {v : Value} {x : Qst} {w W W' : World} (h : Ord B P v x w W) (hb : Below W.heap.size W W') : Ord B P v x w W' :=
  ⟨h.qd.below hb, h.up, h.bl.trans (hb.mono h.le), h.mn, Nat.le_trans h.le hb.size⟩
theorem Ord.stp {B : Nat} {P : QP} {v v' : Value} {x x' : Qst} {w W W' : World} (h : Ord B P v x w W) (hq : QD P v' x' W') (hs : Stp P v v' W W') (hu : x'.up) : Ord B P v' x' w W' := by
  refine ⟨hq, hu, h.bl.trans (hs.kp.below h.le h.mn), fun k hm => ?_, Nat.le_trans h.le hs.kp.size⟩
  rcases Nat.lt_or_ge k W.heap.size with hk | hk
  · exact h.mn k (mine_stp hs k hk hm)
  · exact Nat.le_trans h.le hk
theorem list_up {x : Qst} (h : x.up) : x.list = x.q.jobs := by unfold Qst.list; rw [if_neg (by rw [h.nd]; simp)]
theorem aside_new {P : QP} {v u : Value} {x : Qst} {js : List Jb} {W W' : World} (hq : QD P v x W) (h : W'.owns W.heap.size 38 9 u js.length (jobsL js)) : Aside P v u js W' :=
  ⟨World.owns.mono h (Nat.zero_le _), fun k e hm => by have := (h.lt k e).1; have := hq.lt k hm; omega⟩
theorem Aside.job {P : QP} {v : Value} {a : Option Addr} {c : Nat} {js : List Jb} {W : World} (h : Aside P v (.slice a js.length c) js W) (k : Nat) (j : Jb) (hj : js[k]? = some j) :
    ∃ g, a = some ⟨g, 0, none⟩ ∧ ∀ i u, i < 9 → j.cells[i]? = some u → W.cell? ⟨g, k * 9 + i, none⟩ = some u := by
  have hk : k < js.length := (List.getElem?_eq_some_iff.1 hj).1
  obtain ⟨g, cap, e⟩ := World.owns.pos h.ow (by omega)
  injection e with e1 e2 e3
  subst e1 e3
  exact ⟨g, rfl, fun i u hi hu => (job_cell h.ow hj hi hu).1⟩
end Go.Proofs.YtoggmplkbiidhaaDoor

/- What the reading of an argument tells of its value. -/

/- What the reading of an argument tells of its value: slices of integers, and slices of these. -/
namespace Go
open RowKit ChangeShapes
section
variable {H : Type} {enc : TypeId × Value → H} {P : Program} {w : World} {held : Bool} {fuel : Nat} {t e q : TypeId} {cs : List Value} {x : DataW H × List MemPlace}
theorem addr_none {a : Addr} {v : Value} {w : World} (h : w.cell? (a.add 0) = some v) : ∃ b off, a = ⟨b, off, none⟩ ∧ b < w.heap.size := by
  obtain ⟨b, off, spot⟩ := a
  obtain rfl : spot = none := by
    have := World.cell?_spot h
    simpa [Addr.add] using this
  exact ⟨b, off, rfl, by have := World.block_lt_of_cell? w _ h; simpa [Addr.add] using this⟩
theorem add_none (b off j : Nat) : (⟨b, off, none⟩ : Addr).add j = ⟨b, off + j, none⟩ := by unfold Addr.add; split <;> simp_all
/-- A field of a struct. -/
theorem trod_field {fs : Array Field} (ht : P.underlying t = some (.struct fs)) (h : DataW.trod enc P w 0 (fun _ => true) held fuel t cs = some x) (j : Nat) (f : Field) (hj : fs[j]? = some f) :
    ∃ n y, DataW.trod enc P w 0 (fun _ => true) held n f.type ((cs.drop f.offset).take (P.cellsOf f.type)) = some y := by
  obtain ⟨xs, m, rfl, hx, hl, hlen, hget⟩ := DataW.trod_struct ht h
  have hj' := (Array.getElem?_eq_some_iff.1 hj).1
  exact ⟨m, _, (hget j f hj).trans (List.getElem?_eq_getElem (by omega))⟩
end
end Go

/- What the reading of an argument tells of its value: the acts of the jobs' laws; the table of readers. -/
namespace Go.Proofs.YtoggmplkbiidhaaDoor
set_option linter.all false
open Go.RowKit Go.WideShapes Go.ChangeShapes
theorem six_take (cs : List Value) (h : cs.length = 6) : ∃ a b c d e f, cs = [a, b, c, d, e, f] := by
  match cs, h with
  | [a, b, c, d, e, f], _ => exact ⟨a, b, c, d, e, f, rfl⟩
def listOf (s : ByteArray) : List UInt8 := s.data.toList
theorem bytesOf_listOf (s : ByteArray) : bytesOf (listOf s) = s := by
  apply ByteArray.ext
  simp [bytesOf, listOf]
set_option maxRecDepth 100000 in
theorem open_jacts {H : Type} {enc : TypeId × Value → H} {W : World} {base : Nat} {v : Value} {d : DataW H} {p : List MemPlace} (hv : Value.okWide Tryd.prog W .any base 22 v) (h : DataW.Trod enc Tryd.prog W 0 (fun _ => true) true 22 v d p) :
    ∃ (l : List JAct) (a : Option Addr) (cap : Nat), v = .slice a l.length cap ∧ l.length ≤ maxLen ∧ JActsAt W W.heap.size a l := by
  have cA : Tryd.prog.cellsOf 35 = 6 := by kernel_rfl
  have cS : Tryd.prog.cellsOf 9 = 1 := by kernel_rfl
  have c3 : Tryd.prog.cellsOf 3 = 1 := by kernel_rfl
  have c2 : Tryd.prog.cellsOf 2 = 1 := by kernel_rfl
  have c5 : Tryd.prog.cellsOf 5 = 1 := by kernel_rfl
  obtain ⟨a, len, cap, rfl⟩ := WideShapes.okWide_slice Tryd.underlying22 hv
  obtain ⟨fuel, hf⟩ := h
  rcases DataW.trod_slice Tryd.underlying22 hf with ⟨hcs, _⟩ | ⟨ad, len', cap', elems, rest, n, -, hcs, -, -, hl, hm, hel, hget, -, -⟩
  · simp [Value.cells] at hcs
    obtain ⟨rfl, rfl, rfl⟩ := hcs
    exact ⟨[], none, 0, rfl, by simp, fun j x hj => by simp at hj⟩
  · simp [Value.cells] at hcs
    obtain ⟨rfl, rfl, rfl⟩ := hcs
    have key : ∀ i, i < len → ∃ x : JAct, ∃ b off, ad = ⟨b, off, none⟩ ∧ b < W.heap.size ∧ JActAt W b (off + i * 6) x ∧ x.wf := by
      intro i hi
      have had : ∃ b off, ad = ⟨b, off, none⟩ ∧ b < W.heap.size := by
        have hg0 := hget 0 (by omega)
        rw [List.getElem?_eq_getElem (show 0 < elems.length by omega), cA] at hg0
        obtain ⟨cs0, hcs0, -⟩ := Option.bind_eq_some_iff.1 hg0
        obtain ⟨-, hlen0, hcell0⟩ := World.cells?_some hcs0
        obtain ⟨y0, y1, y2, y3, y4, y5, rfl⟩ := six_take cs0 hlen0
        have := hcell0 0 (by omega)
        have e : ad.add (0 * 6) = ad := by unfold Addr.add; simp
        rw [e] at this
        exact addr_none (v := y0) (this.trans rfl)
      have hg := hget i hi
      rw [List.getElem?_eq_getElem (by omega), cA] at hg
      obtain ⟨cs, hcs, htr⟩ := Option.bind_eq_some_iff.1 hg
      obtain ⟨-, hlen, hcell⟩ := World.cells?_some hcs
      obtain ⟨x0, x1, x2, x3, x4, x5, rfl⟩ := six_take cs hlen
      obtain ⟨_, _, f0⟩ := trod_field Tryd.underlying35 htr 0 _ rfl
      obtain ⟨_, _, f1⟩ := trod_field Tryd.underlying35 htr 1 _ rfl
      obtain ⟨_, _, f2⟩ := trod_field Tryd.underlying35 htr 2 _ rfl
      obtain ⟨_, _, f3⟩ := trod_field Tryd.underlying35 htr 3 _ rfl
      obtain ⟨_, _, f4⟩ := trod_field Tryd.underlying35 htr 4 _ rfl
      obtain ⟨_, _, f5⟩ := trod_field Tryd.underlying35 htr 5 _ rfl
      obtain ⟨z0, e0, -, w0⟩ := DataW.trod_int Tryd.underlying5 f0
      obtain ⟨z1, e1, -, w1⟩ := DataW.trod_int Tryd.underlying2 f1
      obtain ⟨z2, e2, -, w2⟩ := DataW.trod_int Tryd.underlying3 f2
      obtain ⟨z3, e3, -, w3⟩ := DataW.trod_string Tryd.underlying9 f3
      obtain ⟨z4, e4, -, w4⟩ := DataW.trod_string Tryd.underlying9 f4
      obtain ⟨z5, e5, -, w5⟩ := DataW.trod_string Tryd.underlying9 f5
      have g0 := hcell 0 (by omega)
      have g1 := hcell 1 (by omega)
      have g2 := hcell 2 (by omega)
      have g3 := hcell 3 (by omega)
      have g4 := hcell 4 (by omega)
      have g5 := hcell 5 (by omega)
      obtain ⟨b, off, rfl, -⟩ := had
      rw [add_none, add_none] at g0 g1 g2 g3 g4 g5
      simp [c5, c3, c2, cS] at e0 e1 e2 e3 e4 e5
      simp at g0 g1 g2 g3 g4 g5
      subst e0 e1 e2 e3 e4 e5
      have b0 := bounds_u8 w0
      have b1 := bounds_i64 w1
      have b2 := bounds_i64 w2
      have hz0 : ((z0.toNat : Nat) : Int) = z0 := Int.toNat_of_nonneg (by omega)
      refine ⟨⟨z0.toNat, z1, z2, listOf z3, listOf z4, listOf z5⟩, b, off, rfl, World.block_lt_of_cell? W ⟨b, off + i * 6, none⟩ g0, ⟨by rw [hz0]; exact g0, g1, g2, by rw [bytesOf_listOf]; exact g3, by rw [bytesOf_listOf]; exact g4, by rw [bytesOf_listOf]; exact g5⟩, ⟨by show z0.toNat < 256; omega, b1, b2⟩⟩
    have hch : ∃ f : Nat → JAct, ∀ i, i < len → ∃ b off, ad = ⟨b, off, none⟩ ∧ b < W.heap.size ∧ JActAt W b (off + i * 6) (f i) ∧ (f i).wf :=
      ⟨fun i => if h : i < len then Classical.choose (key i h) else ⟨0, 0, 0, [], [], []⟩, fun i hi => by simpa only [dif_pos hi] using Classical.choose_spec (key i hi)⟩
    obtain ⟨f, hf2⟩ := hch
    refine ⟨(List.range len).map f, some ad, cap, by simp, by simp; omega, fun j x hj => ?_⟩
    have hjl : j < len := by
      have := (List.getElem?_eq_some_iff.1 hj).1
      simpa using this
    obtain rfl : x = f j := by simpa [hjl] using hj.symm
    obtain ⟨b, off, h1, h2, h3, h4⟩ := hf2 j hjl
    exact ⟨b, off, by rw [h1], h2, h3, h4⟩
end Go.Proofs.YtoggmplkbiidhaaDoor

/- What the row's condition on the table of readers gives the walks. -/
namespace Go.Proofs.YtoggmplkbiidhaaDoor
set_option linter.all false
open Go.RowKit Go.WideShapes Go.ChangeShapes
def laid1 : List (String × DataW Unit) := [("obscura/jobs.readers", Rows.laid_obscura_jobs_readers)]
theorem gReaders : Tryd.prog.globalNamed "obscura/jobs.readers" = some 0 := by kernel_rfl
theorem tReaders : (Tryd.prog.globals[0]?).map (·.type) = some 117 := by kernel_rfl
theorem cellsF : Tryd.prog.cellsOf 116 = 1 := by kernel_rfl
theorem cellsA : Tryd.prog.cellsOf 117 = 7 := by kernel_rfl
set_option maxRecDepth 100000 in
theorem of_laid {W : World} (h : laidMetH Tryd.prog laid1 W) : TabAt W := by
  obtain ⟨g, t, cs, fuel, p, hg, ht, hv, hd⟩ := h.funcs (List.mem_singleton.2 rfl)
  obtain rfl := Option.some.inj (gReaders.symm.trans hg)
  obtain rfl := Option.some.inj (tReaders.symm.trans ht)
  obtain ⟨xs, m, hfu, hx, hl, hxl, hel⟩ := DataW.trod_array Tryd.underlying117 hd
  have hmap : xs.map (·.1) = [DataW.nil, .held [111, 98, 115, 99, 117, 114, 97, 47, 106, 111, 98, 115, 46, 114, 101, 97, 100, 101, 114, 115, 36, 49], .held [111, 98, 115, 99, 117, 114, 97, 47, 106, 111, 98, 115, 46, 114, 101, 97, 100, 101, 114, 115, 36, 50], .held [111, 98, 115, 99, 117, 114, 97, 47, 106, 111, 98, 115, 46, 114, 101, 97, 100, 101, 114, 115, 36, 51], .held [111, 98, 115, 99, 117, 114, 97, 47, 106, 111, 98, 115, 46, 114, 101, 97, 100, 101, 114, 115, 36, 52], .held [111, 98, 115, 99, 117, 114, 97, 47, 106, 111, 98, 115, 46, 114, 101, 97, 100, 101, 114, 115, 36, 53], .held [111, 98, 115, 99, 117, 114, 97, 47, 106, 111, 98, 115, 46, 114, 101, 97, 100, 101, 114, 115, 36, 54]] := by
    injection hx with hx _
    injection hx with hx
    exact hx.symm
  rw [cellsA] at hl
  have key : ∀ i nm, (xs.map (·.1))[i]? = some (.held nm) → ∃ v m q, W.cell? ⟨0, i, none⟩ = some v ∧ DataW.trod (funcToken Tryd.prog) Tryd.prog W 0 (fun _ => true) true m 116 [v] = some (.held nm, q) := fun i nm hi => by
    rw [List.getElem?_map] at hi
    cases hy : xs[i]? with
    | none => rw [hy] at hi; cases hi
    | some y =>
      rw [hy] at hi
      have hi7 : i < 7 := by have := (List.getElem?_eq_some_iff.1 hy).1; omega
      have he := hel i hi7
      rw [cellsF, Nat.mul_one, hy] at he
      have hc : (cs.toList.drop i).take 1 = [cs.toList[i]'(by omega)] := by
        rw [List.drop_eq_getElem_cons (by omega)]; rfl
      rw [hc] at he
      refine ⟨_, m, y.2, ?_, he.trans ?_⟩
      · rw [World.var?_cell gReaders hv i]
        rw [← Array.getElem?_toList, List.getElem?_eq_getElem (by omega)]
      · have : y.1 = .held nm := by simpa using hi
        rw [← this]
  obtain ⟨v1, m1, q1, hc1, hr1⟩ := key 1 _ (by rw [hmap]; rfl)
  obtain rfl := Go.func_of_trod (f0 := 117) Tryd.underlying116 (by kernel_rfl) hr1
  obtain ⟨v2, m2, q2, hc2, hr2⟩ := key 2 _ (by rw [hmap]; rfl)
  obtain rfl := Go.func_of_trod (f0 := 119) Tryd.underlying116 (by kernel_rfl) hr2
  obtain ⟨v3, m3, q3, hc3, hr3⟩ := key 3 _ (by rw [hmap]; rfl)
  obtain rfl := Go.func_of_trod (f0 := 120) Tryd.underlying116 (by kernel_rfl) hr3
  obtain ⟨v4, m4, q4, hc4, hr4⟩ := key 4 _ (by rw [hmap]; rfl)
  obtain rfl := Go.func_of_trod (f0 := 121) Tryd.underlying116 (by kernel_rfl) hr4
  obtain ⟨v5, m5, q5, hc5, hr5⟩ := key 5 _ (by rw [hmap]; rfl)
  obtain rfl := Go.func_of_trod (f0 := 122) Tryd.underlying116 (by kernel_rfl) hr5
  obtain ⟨v6, m6, q6, hc6, hr6⟩ := key 6 _ (by rw [hmap]; rfl)
  obtain rfl := Go.func_of_trod (f0 := 123) Tryd.underlying116 (by kernel_rfl) hr6
  intro k h1 h6
  obtain rfl | rfl | rfl | rfl | rfl | rfl : k = 1 ∨ k = 2 ∨ k = 3 ∨ k = 4 ∨ k = 5 ∨ k = 6 := by omega
  · exact hc1
  · exact hc2
  · exact hc3
  · exact hc4
  · exact hc5
  · exact hc6
theorem door_met (os : Os) (args : Array Value) : laidMetH Tryd.prog laid1 ((World.doorLaid Tryd.prog 600 os).forCall (fun _ _ => 0) ⟨#[], args, []⟩).memory :=
  laidMetH_of_parts3 (fuel := 8) (laidMet_of_run' 8 (by kernel_rfl) (by kernel_rfl)) (by kernel_rfl) (by kernel_rfl)
end Go.Proofs.YtoggmplkbiidhaaDoor
