/- A region that draws its order, reads and at its end stores, within a round. -/
import Derived.Test.YtpcpgmgpkegjlaaFin
namespace Go
open RowKit
/-- Every operation waits only for earlier ones. -/
def lowB (ops : Array Oper) : Bool := (List.range ops.size).all fun i => ((ops[i]?).map fun o => o.after.all fun e => decide (e.on < i)).getD true
/-- The last operation waits for all others. -/
def lastB (ops : Array Oper) (L : Nat) : Bool := (List.range L).all fun i => ((ops[L]?).map fun o => o.after.any fun e => Region.binds .any e && e.on == i).getD false
theorem ready_some {ops : Array Oper} (h : lowB ops = true) (listed : Array Bool) (hs : listed.size = ops.size) (k : Nat) (hk : k < ops.size) (hu : listed.getD k true = false) : Region.ready .any ops listed ≠ [] := by
  induction k using Nat.strongRecOn with
  | _ k ih =>
    by_cases hall : ∀ j, j < k → listed.getD j true = true
    · intro he
      have hm : k ∈ Region.ready .any ops listed := by
        rw [mem_ready]
        refine ⟨hu, ops[k], Array.getElem?_eq_getElem hk, fun e he2 _ => ?_⟩
        unfold lowB at h
        rw [List.all_eq_true] at h
        have h2 := h k (List.mem_range.2 hk)
        rw [Array.getElem?_eq_getElem hk, Option.map_some, Option.getD_some, Array.all_eq_true_iff_forall_mem] at h2
        have h3 := h2 e he2
        have h4 := hall e.on (by simpa using h3)
        have : e.on < listed.size := by simp at h3; omega
        simpa [this] using h4
      rw [he] at hm; cases hm
    · simp only [Classical.not_forall] at hall
      obtain ⟨j, hj, hn⟩ := hall
      exact ih j hj (by omega) (by simpa using hn)
theorem ready_none {ops : Array Oper} {L : Nat} (hL : ops.size = L + 1) (h : lastB ops L = true) (listed : Array Bool) (hs : listed.size = ops.size) (hr : L ∈ Region.ready .any ops listed) : Region.ready .any ops (listed.setIfInBounds L true) = [] := by
  rw [List.eq_nil_iff_forall_not_mem]
  intro j hj
  rw [mem_ready] at hj hr
  obtain ⟨h1, o, ho, h2⟩ := hj
  have hjs := (Array.getElem?_eq_some_iff.1 ho).1
  by_cases e : j = L
  · subst e
    simp [show j < listed.size by omega] at h1
  · obtain ⟨-, oL, hoL, h3⟩ := hr
    unfold lastB at h
    rw [List.all_eq_true] at h
    have h4 := h j (List.mem_range.2 (by omega))
    rw [hoL, Option.map_some, Option.getD_some, Array.any_eq_true] at h4
    obtain ⟨i, hi, h5⟩ := h4
    rw [Bool.and_eq_true] at h5
    have h6 := h3 _ (Array.getElem_mem hi) h5.1
    rw [beq_iff_eq.1 h5.2] at h6
    rw [getD_set_ne true (fun e' => e e'.symm)] at h1
    have : j < listed.size := by omega
    simp [this] at h1 h6
    rw [h1] at h6; cases h6
theorem ready_congr {ops ops' : Array Oper} (hs : ops.size = ops'.size) (ha : ∀ i : Nat, (ops[i]?).map (·.after) = (ops'[i]?).map (·.after)) (listed : Array Bool) : Region.ready .any ops listed = Region.ready .any ops' listed := by
  unfold Region.ready
  rw [hs]
  refine List.filter_congr fun i _ => ?_
  have := ha i
  cases h1 : ops[i]? <;> cases h2 : ops'[i]? <;> simp [h1, h2] at this ⊢
  rw [this]
theorem yielded_congr {ops ops' : Array Oper} (hd : ∀ i : Nat, (ops[i]?).bind (·.dst) = (ops'[i]?).bind (·.dst)) (t : Array Value) : yielded ops t = yielded ops' t := by
  funext j; unfold yielded; rw [hd]
section
variable {P : Program} {C : World → Prop}
theorem wpAnyInR_store {ops ops' : Array Oper} {st st' : Oper} {L n l : Nat} {Q : Act → Prop} {Q' : Exit → Act → World → Prop}
    (hL : ops.size = L + 1) (hst : ops[L]? = some st) (hst' : ops'[L]? = some st') (hs : ops.size = ops'.size) (hsame : ∀ i : Nat, i ≠ L → ops[i]? = ops'[i]?) (hafter : st'.after = st.after) (hd1 : st.dst = none) (hd2 : st'.dst = none) (hg1 : st.guard = none) (hg2 : st'.guard = none)
    (hlow : lowB ops = true) (hlast : lastB ops L = true) (hnd : noDefer ops = true)
    (hQ : ∀ a w, C w → Q a → st.wpIn (Fence.wide.inRound l) n P a w (fun a' w' => Q' .normal a' w') Q') :
    ∀ (fuel : Nat) (listed : Array Bool) (a : Act) (w : World), C w → listed.size = ops.size → listed.getD L true = false → wpAnyQ P .any ops' C Q fuel listed a → wpAnyIn (Fence.wide.inRound l) n P .any ops Q' fuel listed a w := by
  have hready : ∀ x, Region.ready .any ops x = Region.ready .any ops' x := ready_congr hs (fun i => by
    by_cases e : i = L
    · subst e; rw [hst, hst']; simp [hafter]
    · rw [hsame i e])
  have hyield : ∀ t, yielded ops t = yielded ops' t := yielded_congr (fun i => by
    by_cases e : i = L
    · subst e; rw [hst, hst']; simp [hd1, hd2]
    · rw [hsame i e])
  intro fuel
  induction fuel with
  | zero =>
    intro listed a w _ hls hlu h
    exact absurd ((hready _).trans h.1) (ready_some hlow listed hls L (by omega) hlu)
  | succ fuel ih =>
    intro listed a w hC hls hlu h
    refine ⟨fun h0 => absurd h0 (ready_some hlow listed hls L (by omega) hlu), fun i hi => ?_⟩
    have h2 := h.2 i (by rw [← hready]; exact hi)
    by_cases e : i = L
    · subst e
      have hnone := ready_none hL hlast listed hls hi
      unfold qOp at h2
      rw [hst'] at h2
      simp only [Region.wanted, hg2, if_true] at h2
      obtain ⟨v, -, h3⟩ := h2
      unfold Act.put at h3
      rw [hd2] at h3
      have hq : Q a := by
        cases fuel with
        | zero => exact h3.2
        | succ fuel => exact h3.1 ((hready _).symm.trans hnone)
      unfold wpOpIn
      rw [hst]
      simp only [Region.wanted, hg1, if_true]
      exact Oper.wpIn_mono (fun a' w' hk => wpAnyIn_done hnone hk _) (hQ a w hC hq)
    · unfold qOp at h2
      unfold wpOpIn
      rw [hsame i e]
      split
      · rename_i ho; simp only [ho] at h2; exact ih _ _ _ hC (by simpa using hls) (by rw [getD_set_ne true e]; exact hlu) h2
      · rename_i o ho
        simp only [ho] at h2
        rw [hyield]
        split
        · rename_i hw
          simp only [hw, if_true] at h2
          exact wpInR_of_quiet (noDefer_spec hnd i o ((hsame i e).trans ho)) hC (fun a' w' hw' hk => ih _ _ _ hw' (by simpa using hls) (by rw [getD_set_ne true e]; exact hlu) hk) h2
        · rename_i hw
          simp only [hw] at h2
          exact ⟨fun _ _ => trivial, ih _ _ _ hC (by simpa using hls) (by rw [getD_set_ne true e]; exact hlu) h2⟩
/-- The operation that stands for the store. -/
def Oper.idle (o : Oper) : Oper := { o with op := .move (.const (.bool true)), dst := none, guard := none }
theorem wpInR_region_store {n l id : Nat} {Q : Exit → Act → World → Prop} {a : Act} {w : World} {front : List Oper} {st : Oper} (hm : P.follows .mixedOrders = true) (hd1 : st.dst = none) (hg1 : st.guard = none)
    (hB : Region.lexB .any (front ++ [st.idle]).toArray = true) (hlow : lowB (front ++ [st]).toArray = true) (hlast : lastB (front ++ [st]).toArray front.length = true) (hnd : noDefer (front ++ [st]).toArray = true)
    (h : wpQuiet P (front ++ [st.idle]).toArray (fun w' => ∃ n, w' = w.drewN n) (fun a' => ∀ w', (∃ n, w' = w.drewN n) → st.wpIn (Fence.wide.inRound l) n P a' w' (fun a'' w'' => Q .normal a'' w'') Q) (front ++ [st.idle]) a) : (Code.region id (front ++ [st]).toArray true).wpIn (Fence.wide.inRound l) n P Q a w := by
  simp only [Region.lexB, Bool.and_eq_true] at hB
  have hsame : ∀ i : Nat, i ≠ front.length → (front ++ [st]).toArray[i]? = (front ++ [st.idle]).toArray[i]? := by
    intro i hi
    simp only [List.getElem?_toArray, List.getElem?_append]
    split
    · rfl
    · rw [List.getElem?_singleton, List.getElem?_singleton, if_neg (by omega), if_neg (by omega)]
  have hq := wpAnyQ_lex (C := fun w' => ∃ n, w' = w.drewN n) (md := .any) hB.1 (front ++ [st.idle]) 0 (Array.replicate (front ++ [st.idle]).toArray.size false) a (by simp) (by simpa using hB.2) h
  refine wpIn_region_any hm (wpAnyInR_store (ops' := (front ++ [st.idle]).toArray) (st := st) (st' := st.idle) (L := front.length) (C := fun w' => ∃ n, w' = w.drewN n) (Q := fun a' => ∀ w', (∃ n, w' = w.drewN n) → st.wpIn (Fence.wide.inRound l) n P a' w' (fun a'' w'' => Q .normal a'' w'') Q) (by simp) (by simp) (by simp) (by simp) hsame rfl hd1 rfl hg1 rfl hlow hlast hnd (fun a w' hw hq => hq w' hw) _ _ _ _ ⟨1, rfl⟩ (by simp) (by simp) ?_)
  simpa using hq
theorem wpInR_region_store_lit {n l id : Nat} {Q : Exit → Act → World → Prop} {a : Act} {w : World} {os : List Oper} (L : Nat) (st : Oper) (hos : os = os.take L ++ [st]) (hl : (os.take L).length = L) (hm : P.follows .mixedOrders = true) (hd1 : st.dst = none) (hg1 : st.guard = none)
    (hB : Region.lexB .any (os.take L ++ [st.idle]).toArray = true) (hlow : lowB os.toArray = true) (hlast : lastB os.toArray L = true) (hnd : noDefer os.toArray = true)
    (h : wpQuiet P (os.take L ++ [st.idle]).toArray (fun w' => ∃ n, w' = w.drewN n) (fun a' => ∀ w', (∃ n, w' = w.drewN n) → st.wpIn (Fence.wide.inRound l) n P a' w' (fun a'' w'' => Q .normal a'' w'') Q) (os.take L ++ [st.idle]) a) : (Code.region id os.toArray true).wpIn (Fence.wide.inRound l) n P Q a w := by
  rw [hos] at hlow hlast hnd ⊢
  rw [← hl] at hlast
  simp only [hl] at hlast
  exact wpInR_region_store hm hd1 hg1 hB hlow (by rw [hl]; exact hlast) hnd h
end
end Go
