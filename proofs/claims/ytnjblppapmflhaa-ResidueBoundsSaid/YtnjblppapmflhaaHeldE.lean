/- Drawn regions in which an extraction may come behind the first late store: it may be thought to come ahead of it. -/
import Derived.Test.YtnjblppapmflhaaHeldA
namespace Go
open Go.RowKit Go.Shelf
section
variable {P : Program} {ops : Array Oper} {Q : Exit → Act → World → Prop}
def moreAfter (e : Nat) (o : Oper) : Oper := { o with after := o.after.push ⟨e, .data⟩ }
/-- The operations with an edge more: k waits for e. -/
def withEdge (ops : Array Oper) (k e : Nat) : Array Oper := (ops.toList.modify k (moreAfter e)).toArray
theorem withEdge_get (ops : Array Oper) (k e j : Nat) : (withEdge ops k e)[j]? = if k = j then (ops[j]?).map (moreAfter e) else ops[j]? := by
  unfold withEdge
  rw [List.getElem?_toArray, List.getElem?_modify]
  simp only [Array.getElem?_toList]
  split <;> simp
theorem wpOp_withEdge (k e i : Nat) (K : Act → World → Prop) (a : Act) (w : World) : wpOp P (withEdge ops k e) Q i K a w = wpOp P ops Q i K a w := by
  have hy : yielded (withEdge ops k e) a.tmps = yielded ops a.tmps := yielded_congr (fun j => by
    rw [withEdge_get]
    split
    · cases ops[j]? <;> rfl
    · rfl) _
  unfold wpOp
  rw [withEdge_get, hy]
  by_cases hki : k = i
  · rw [if_pos hki]; cases ops[i]? <;> rfl
  · rw [if_neg hki]
def waitsFor (ops : Array Oper) (k j : Nat) : Bool := ((ops[k]?).map fun o => o.after.any fun e => Region.binds .any e && e.on == j).getD false
theorem waitsFor_listed {k j : Nat} {listed : Array Bool} (h : waitsFor ops k j = true) (hr : k ∈ Region.ready .any ops listed) : listed.getD j false = true := by
  obtain ⟨-, o, ho, hall⟩ := mem_ready.1 hr
  unfold waitsFor at h
  simp only [ho, Option.map_some, Option.getD_some] at h
  obtain ⟨e, he, h1⟩ := Array.any_eq_true'.1 h
  simp only [Bool.and_eq_true, beq_iff_eq] at h1
  rw [← h1.2]
  exact hall e he h1.1
def pureE (oe : Oper) : Bool := (match oe.op with | .extract .. => true | _ => false) && oe.guard.isNone
def edgeB (ops : Array Oper) (k e : Nat) : Bool := e != k && Region.noSelect ops && match ops[e]? with
  | none => false
  | some oe => pureE oe && oe.after.all (fun x => !Region.binds .any x || waitsFor ops k x.on) && (List.range ops.size).all fun j => j == e || waitsFor ops k j || waitsFor ops j e || match ops[j]? with
    | some oj => oe.apart ops oj
    | none => true
theorem pure_yields {oe : Oper} {e : Nat} (he : ops[e]? = some oe) (hp : pureE oe = true) {K : Act → World → Prop} {a : Act} {w : World} (h : wpOp P ops Q e K a w) : ∃ v, Yields P ops oe v a ∧ K (a.put oe.dst v) w := by
  unfold pureE at hp
  simp only [Bool.and_eq_true] at hp
  obtain ⟨h1, h2⟩ := hp
  have hw : ∀ y, Region.wanted oe y = true := fun y => by
    unfold Region.wanted
    cases hg : oe.guard with
    | none => rfl
    | some x => rw [hg] at h2; cases h2
  unfold wpOp at h
  simp only [he, hw, if_true] at h
  cases hop : oe.op with
  | extract t ix =>
    have hx : execOp a.eval oe = (do pure (.value (← Instr.extract (a.eval t) ix)) : Sem Next) := by unfold execOp; rw [hop]
    have hbad : ∀ m, execOp a.eval oe = (do pure (.value (← (stuck m : Sem Value))) : Sem Next) → False := fun m hm => by
      rcases h with h | ⟨h, -⟩
      · unfold Oper.wp at h; rw [hm] at h; exact h
      · unfold Oper.asks at h; rw [hm] at h; exact absurd h.1 (by show ¬ noRoomEvent ∈ (#[] : Array Event); simp)
    generalize a.eval t = u at hx
    cases u with
    | tuple vs =>
      cases hv : vs[ix]? with
      | some v =>
        have hm : execOp a.eval oe = (do pure (.value (← (pure v : Sem Value))) : Sem Next) := by rw [hx]; simp only [Instr.extract, hv]
        have hr : ∀ w, (execOp a.eval oe).run P w = .ok (.value v) w := fun w => by rw [hm]; rfl
        refine ⟨v, .inl ⟨hw _, hr⟩, ?_⟩
        rcases h with h | ⟨h, -⟩
        · unfold Oper.wp at h; rw [hr] at h; exact h
        · unfold Oper.asks at h; rw [hm] at h; exact absurd h.1 (by show ¬ noRoomEvent ∈ (#[] : Array Event); simp)
      | none => exact (hbad "Extract: no such component" (by rw [hx]; simp only [Instr.extract, hv])).elim
    | _ => exact (hbad "Extract: tuple expected" (by rw [hx]; rfl)).elim
  | _ => rw [hop] at h1; cases h1
theorem wpAny_edge {k e : Nat} {oe : Oper} (he : ops[e]? = some oe) (hB : edgeB ops k e = true) (hQ : ∀ v c a w, Q (.panic c) (a.put oe.dst v) w → Q (.panic c) a w) :
    ∀ (fuel : Nat) (listed : Array Bool) (a : Act) (w : World), e < listed.size → wpAny P .any (withEdge ops k e) Q fuel listed a w → wpAny P .any ops Q fuel listed a w := by
  unfold edgeB at hB
  rw [he] at hB
  simp only [Bool.and_eq_true, bne_iff_ne, ne_eq, List.all_eq_true, List.mem_range, Array.all_eq_true_iff_forall_mem, Bool.or_eq_true, Bool.not_eq_true', beq_iff_eq] at hB
  obtain ⟨⟨hek, hs⟩, ⟨hp, hin⟩, hfree⟩ := hB
  have hsub : ∀ listed j, j ∈ Region.ready .any (withEdge ops k e) listed → j ∈ Region.ready .any ops listed := fun listed j hj => by
    obtain ⟨h1, o, ho, h2⟩ := mem_ready.1 hj
    rw [withEdge_get] at ho
    split at ho
    · cases hoj : ops[j]? with
      | none => rw [hoj] at ho; cases ho
      | some o' =>
        rw [hoj] at ho
        injection ho with ho
        subst ho
        exact mem_ready.2 ⟨h1, o', hoj, fun x hx hb => h2 x (Array.mem_push_of_mem _ hx) hb⟩
    · exact mem_ready.2 ⟨h1, o, ho, h2⟩
  have hsup : ∀ listed j, j ∈ Region.ready .any ops listed → (j = k → listed.getD e false = true) → j ∈ Region.ready .any (withEdge ops k e) listed := fun listed j hj hk => by
    obtain ⟨h1, o, ho, h2⟩ := mem_ready.1 hj
    by_cases hjk : k = j
    · refine mem_ready.2 ⟨h1, moreAfter e o, by rw [withEdge_get, if_pos hjk, ho]; rfl, fun x hx hb => ?_⟩
      rcases Array.mem_push.1 hx with hx | hx
      · exact h2 x hx hb
      · subst hx; exact hk hjk.symm
    · exact mem_ready.2 ⟨h1, o, by rw [withEdge_get, if_neg hjk]; exact ho, h2⟩
  have hre : ∀ listed, k ∈ Region.ready .any ops listed → listed.getD e true = false → e ∈ Region.ready .any ops listed := fun listed hk hl =>
    mem_ready.2 ⟨hl, oe, he, fun x hx hb => by
      rcases hin x hx with h | h
      · rw [h] at hb; cases hb
      · exact waitsFor_listed h hk⟩
  have hcase : ∀ listed : Array Bool, e < listed.size → (k ∈ Region.ready .any ops listed ∧ listed.getD e true = false) ∨ (∀ j, j ∈ Region.ready .any ops listed → j ∈ Region.ready .any (withEdge ops k e) listed) := fun listed hsz => by
    by_cases hk : k ∈ Region.ready .any ops listed
    · cases hl : listed.getD e true with
      | false => exact .inl ⟨hk, rfl⟩
      | true =>
        refine .inr fun j hj => hsup listed j hj fun _ => ?_
        simpa [hsz] using hl
    · exact .inr fun j hj => hsup listed j hj fun h => absurd (h ▸ hj) hk
  intro fuel
  induction fuel with
  | zero =>
    intro listed a w hsz H
    refine ⟨?_, H.2⟩
    rcases hcase listed hsz with ⟨hk, hl⟩ | h
    · have := hsup listed e (hre listed hk hl) (fun h => absurd h hek)
      rw [H.1] at this; cases this
    · refine List.eq_nil_iff_forall_not_mem.2 fun j hj => ?_
      have := h j hj
      rw [H.1] at this; cases this
  | succ fuel ih =>
    intro listed a w hsz H
    rcases hcase listed hsz with ⟨hk, hl⟩ | h
    · have her := hre listed hk hl
      have h1 := H.2 e (hsup listed e her (fun h => absurd h hek))
      rw [wpOp_withEdge] at h1
      obtain ⟨v, hy, h2⟩ := pure_yields he hp h1
      refine wpAny_first he (Region.noSelect_spec hs) (hQ v) fuel listed a w (fun j oj hj hje hun hno => ?_) her hy (ih _ _ _ (by simpa using hsz) h2)
      have := hfree j (Array.getElem?_eq_some_iff.1 hj).1
      rcases this with ((h | h) | h) | h
      · exact absurd h hje
      · have := waitsFor_listed h hk
        exact (unlisted_not hun this).elim
      · unfold waitsFor at h
        simp only [hj, Option.map_some, Option.getD_some] at h
        obtain ⟨x, hx, h1⟩ := Array.any_eq_true'.1 h
        simp only [Bool.and_eq_true, beq_iff_eq] at h1
        exact absurd h1.2 (hno x hx h1.1)
      · rw [hj] at h; exact h
    · refine ⟨fun h0 => H.1 ?_, fun j hj => ?_⟩
      · refine List.eq_nil_iff_forall_not_mem.2 fun j hj => ?_
        have := hsub listed j hj
        rw [h0] at this; cases this
      · have h1 := H.2 j (h j hj)
        rw [wpOp_withEdge] at h1
        exact wpOp_mono (fun a' w' => ih _ a' w' (by simpa using hsz)) h1
theorem withEdge_size (k e : Nat) : (withEdge ops k e).size = ops.size := by unfold withEdge; simp
/-- A drawn region, with an edge more. -/
theorem wp_region_AE {id : Nat} {a : Act} {w : World} (k e : Nat) {oe : Oper} (B : Nat) (S F : World → Prop) (late : Nat → Bool) (hm : P.follows .mixedOrders = true) (he : ops.toList[e]? = some oe) (hB : edgeB ops k e = true)
    (hQ : ∀ v c a w, Q (.panic c) (a.put oe.dst v) w → Q (.panic c) a w) (hw : waitsA (withEdge ops k e) late = true) (hF : Fact B S F) (hFw : F w.drew)
    (h : Fact B S F → wpAnyA P (withEdge ops k e) Q B S late (fun fuel listed a w => wpAny P .any (withEdge ops k e) Q fuel listed a w) ops.size (Array.replicate ops.size false) a F) : (Code.region id ops true).wp P Q a w := by
  have he' : ops[e]? = some oe := by simpa using he
  exact wp_region_any hm (wpAny_edge he' hB hQ _ _ _ _ (by rw [Array.size_replicate]; exact (Array.getElem?_eq_some_iff.1 he').1) (wpAny_of_A (waitsA_spec hw) _ _ _ F _ (h hF) hFw))
end
end Go
