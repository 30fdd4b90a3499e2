/- Walks: the iterator over moduli. -/
import Derived.Test.YtpcpgmgpkegjlaaGA4
import Derived.Test.YtpcpgmgpkegjlaaBase
namespace Go.Proofs.Ytpcpgmgpkegjlaa
open Go.RowKit Go.Shelf
attribute [local go_sem] Oper.semAt_some
/-- The moduli of a level. -/
def modl (chain : List Nat) (sp : Nat) (level : Nat) (special : Bool) : List Nat := chain.take level ++ (if special then [sp] else [])
def modAt (l : List Nat) (x : Fin l.length) : Nat := l[x.val]
def ModEnc (l : List Nat) (x : Fin l.length) : Array Value := #[.int .i64 (x.val : Int), .int .u32 (modAt l x : Nat)]
set_option maxRecDepth 100000 in
set_option maxHeartbeats 4000000 in
theorem moduli1_in (n : Nat) (hn : 1 ≤ n) (l pb p : Nat) (S : Nat → Prop)
    (N pr pw wt er : Int) (cv : Value) (chain : List Nat) (sp level : Nat) (special : Bool) (B : Nat) (hlev : level ≤ chain.length) (_ : chain.length ≤ 9223372036854775807)
    (J Jx : List (Fin (modl chain sp level special).length) → World → Prop)
    (hJd : ∀ pre W n, J pre W → J pre (W.drewN n))
    (hY : ∀ pre x W, J pre W → pre.length < (modl chain sp level special).length → YieldAt Fence.wide (n - 1) Try.prog l (ModEnc _ x) W fun e W' =>
      (e = .returned (.bool true) ∧ J (pre ++ [x]) W' ∧ KeepP S W W') ∨ (e = .returned (.bool false) ∧ Jx (pre ++ [x]) W'))
    (W : World) (s0 : S pb) (s1 : S (pb + 1)) (s2 : S (pb + 2)) (sP : S p) (sC : ∀ a n c b off, cv = .slice a n c → a = some ⟨b, off, none⟩ → S b)
    (k0 : W.heap[pb]? = some (.cells #[.pointer (some ⟨p, 0, none⟩)] 55)) (k1 : W.heap[pb + 1]? = some (.cells #[.int .i64 (level : Int)] 3)) (k2 : W.heap[pb + 2]? = some (.cells #[.bool special] 4))
    (hp : W.heap[p]? = some (.cells #[.int .i64 N, .int .u32 pr, .int .i64 pw, cv, .int .u32 (sp : Int), .int .i64 wt, .int .u32 er] 25)) (hr : W.reads B cv (chain.map u32V))
    (h0 : J [] W) :
    CallsIn Fence.wide n Try.prog 58 #[.func (.yield l) #[] #[], .pointer (some ⟨pb, 0, none⟩), .pointer (some ⟨pb + 1, 0, none⟩), .pointer (some ⟨pb + 2, 0, none⟩)] W fun e W' => (∃ v, e = .returned v) ∧
      ((∃ ys, ys = List.finRange _ ∧ J ys W') ∨ (∃ pre, pre <+: List.finRange _ ∧ Jx pre W')) := by
  have HS : Hid (∀ W', KeepP S W W' → W'.cell? ⟨pb, 0, none⟩ = some (.pointer (some ⟨p, 0, none⟩)) ∧ W'.cell? ⟨pb + 1, 0, none⟩ = some (.int .i64 (level : Int)) ∧ W'.cell? ⟨pb + 2, 0, none⟩ = some (.bool special) ∧ W'.cell? ⟨p, 3, none⟩ = some cv ∧ W'.cell? ⟨p, 4, none⟩ = some (.int .u32 (sp : Int)) ∧ W'.reads B cv (chain.map u32V)) := by
    intro W' hk
    refine ⟨?_, ?_, ?_, ?_, ?_, hk.reads hr sC⟩
    · rw [hk.cell s0]; simp [World.cell?, k0]
    · rw [hk.cell s1]; simp [World.cell?, k1]
    · rw [hk.cell s2]; simp [World.cell?, k2]
    · rw [hk.cell sP]; exact (par_cells hp).2.2.2.1
    · rw [hk.cell sP]; exact (par_cells hp).2.2.2.2.1
  have hml : (modl chain sp level special).length = level + (if special then 1 else 0) := by
    unfold modl; cases special <;> simp <;> omega
  have HML := Lib.hid hml
  have HY := Lib.hid hY
  clear hY k0 k1 k2 hp hr hml
  have H0 := HS.out W (KeepP.refl W)
  obtain ⟨c0, c1, c2, c3, c4, hr⟩ := H0
  have hl := hr.le_map
  obtain ⟨a, cap, rfl, hcap, hmx, hsh⟩ := reads_u32 hr
  have HSH := Lib.hid hsh
  clear hsh hr
  have hlv2 : level ≤ cap := by omega
  refine callsIn_of_wp Try.func58 rfl trivial ?_ rfl
  simp only [Try.ntmps58, List.size_toArray, List.length_cons, List.length_nil, Nat.reduceAdd, Nat.reduceSub, Array.replicate_succ, Array.replicate_zero, List.push_toArray, List.append_toArray, List.nil_append, List.cons_append]
  gi_wp2
  gi_big_quiet_th (fail)
  gi_wp2
  clear c0 c1 c2 c3 c4
  have hJ0 := hJd _ _ nq h0
  have HJD := Lib.hid hJd
  clear hJd h0
  gi_loopw [14] (fun i wr => ∃ k : Nat, k ≤ level ∧ i = .int .i64 (k : Int) ∧ J (fins _ k) wr ∧ KeepP S W wr)
    (fun i _ => level - (intOf i).toNat)
  case atStart => exact ⟨0, Nat.zero_le _, rfl, hJ0, fun _ _ => rfl⟩
  case round =>
    clear hJ0
    obtain ⟨k, hk, rfl, hJs, hkp⟩ := hrel
    by_cases hlt : k < level
    · obtain ⟨q, hq⟩ : ∃ x, chain[k]? = some x := ⟨chain[k]'(by omega), List.getElem?_eq_getElem _⟩
      obtain ⟨b, off, rfl, _, hc0⟩ := HSH.out k q hq
      have hSb : S b := sC _ _ _ _ _ rfl rfl
      have hc : wr.cell? ⟨b, off + k, none⟩ = some (.int .u32 (q : Int)) := (hkp.cell hSb).trans hc0
      have hlm : k < (modl chain sp level special).length := by rw [HML.out]; omega
      have hqm : (modl chain sp level special)[k] = q := by
        have : (modl chain sp level special)[k]? = some q := by
          unfold modl
          rw [List.getElem?_append_left (by simp; omega), List.getElem?_take, if_pos hlt]; exact hq
        rw [List.getElem?_eq_getElem hlm] at this
        injection this
      obtain ⟨fn, tmps, assign, body, hy, hR⟩ := HY.out _ (⟨k, hlm⟩ : Fin _) wr hJs (by rw [fins_length _ _ (by omega)]; exact hlm)
      have hy' : (Instr.yield l #[.int .i64 (k : Int), .int .u32 (q : Int)]).run Try.prog wr = .ok (.round l fn tmps assign body) wr := by
        unfold ModEnc modAt at hy; simp only [hqm] at hy; exact hy
      have HQ := Lib.hid hq
      have HQM := Lib.hid hqm
      clear hy hq hqm hc0
      gi_wp2
      refine hR.mono ?_
      rintro e W3 (⟨rfl, hJ3, hk3⟩ | ⟨rfl, hJx3⟩)
      · gi_wp2
        go_roundw
        case rel => exact ⟨k + 1, by omega, by go_num, by rw [fins_succ _ _ hlm]; exact hJ3, hkp.trans hk3⟩
        case measure => simp [intOf]; omega
      · gi_wp2
        refine bodyPost_ret (results_none rfl _ _ _) rfl ?_
        exact ⟨⟨_, rfl⟩, .inr ⟨_, by rw [← fins_succ _ _ hlm]; exact fins_prefix _ _, hJx3⟩⟩
    · obtain rfl : k = level := by omega
      obtain ⟨c0, c1, c2, c3, c4, -⟩ := HS.out _ hkp
      cases special
      · gi_wp2
        go_end0
        exact ⟨⟨_, rfl⟩, .inl ⟨_, rfl, by
          have hm : (modl chain sp k false).length = k := by rw [HML.out]; simp
          have := hJs
          rw [← fins_all]
          rwa [show fins (modl chain sp k false).length (modl chain sp k false).length = fins (modl chain sp k false).length k by rw [hm]]⟩⟩
      · have hlm : k < (modl chain sp k true).length := by rw [HML.out]; simp
        have hqm : (modl chain sp k true)[k] = sp := by
          have : (modl chain sp k true)[k]? = some sp := by
            unfold modl
            rw [List.getElem?_append_right (by simp; omega)]; simp
            rw [Nat.min_eq_left (by omega)]; simp
          rw [List.getElem?_eq_getElem hlm] at this
          injection this
        have hJd1 : J (fins _ k) wr.drew := HJD.out _ wr 1 hJs
        obtain ⟨fn, tmps, assign, body, hy, hR⟩ := HY.out _ (⟨k, hlm⟩ : Fin _) wr.drew hJd1 (by rw [fins_length _ _ (by omega)]; exact hlm)
        have hy' : (Instr.yield l #[.int .i64 (k : Int), .int .u32 (sp : Int)]).run Try.prog wr.drew = .ok (.round l fn tmps assign body) wr.drew := by
          unfold ModEnc modAt at hy; simp only [hqm] at hy; exact hy
        have hR2 := hR.mono (R' := fun e W' => ∃ b : Bool, e = .returned (.bool b) ∧ Hid ((b = true ∧ J (fins _ k ++ [⟨k, hlm⟩]) W') ∨ (b = false ∧ Jx (fins _ k ++ [⟨k, hlm⟩]) W'))) (by
          rintro e W3 (⟨rfl, hJ3, hk3⟩ | ⟨rfl, hJx3⟩)
          · exact ⟨true, rfl, .inl ⟨rfl, hJ3⟩⟩
          · exact ⟨false, rfl, .inr ⟨rfl, hJx3⟩⟩)
        clear hy hqm hR
        gi_wp2
        gi_region_with ((refine hR2.mono ?_; rintro e W3 ⟨bb, rfl, hJ3⟩))
        all_goals
          try gi_wp2
          go_end0
          refine ⟨⟨_, rfl⟩, ?_⟩
          have hN : (modl chain sp k true).length = k + 1 := by rw [HML.out]; simp
          have hf : fins (modl chain sp k true).length k ++ [⟨k, hlm⟩] = List.finRange _ := by
            rw [← fins_succ _ _ hlm, ← fins_all]; congr 1; exact hN.symm
          rcases hJ3.out with ⟨rfl, h⟩ | ⟨rfl, h⟩
          · exact .inl ⟨_, rfl, by rw [← hf]; exact h⟩
          · exact .inr ⟨_, List.prefix_refl _, by rw [← hf]; exact h⟩
/-- The iterator's contract at a loop. -/
theorem moduli_stops (n : Nat) (hn : 1 ≤ n) (pb p : Nat) (S : Nat → Prop)
    (N pr pw wt er : Int) (cv : Value) (chain : List Nat) (sp level : Nat) (special : Bool) (B : Nat) (hlev : level ≤ chain.length) (hlc : chain.length ≤ 9223372036854775807)
    (W : World) (hS : ∀ b, S b → b < W.heap.size) (s0 : S pb) (s1 : S (pb + 1)) (s2 : S (pb + 2)) (sP : S p) (sC : ∀ a n c b off, cv = .slice a n c → a = some ⟨b, off, none⟩ → S b)
    (k0 : W.heap[pb]? = some (.cells #[.pointer (some ⟨p, 0, none⟩)] 55)) (k1 : W.heap[pb + 1]? = some (.cells #[.int .i64 (level : Int)] 3)) (k2 : W.heap[pb + 2]? = some (.cells #[.bool special] 4))
    (hp : W.heap[p]? = some (.cells #[.int .i64 N, .int .u32 pr, .int .i64 pw, cv, .int .u32 (sp : Int), .int .i64 wt, .int .u32 er] 25)) (hr : W.reads B cv (chain.map u32V)) :
    SeqStopsK Fence.wide n Try.prog 58 #[.pointer (some ⟨pb, 0, none⟩), .pointer (some ⟨pb + 1, 0, none⟩), .pointer (some ⟨pb + 2, 0, none⟩)] (ModEnc (modl chain sp level special)) (KeepP S)
      (fun ys => ys = List.finRange _) (fun pre => pre <+: List.finRange _) (modl chain sp level special).length W := fun l J Jx W' hW hA hAx hY h0 => by
  have hk : KeepP S W W' := KeepP.below hW hS
  refine (moduli1_in n hn l pb p S N pr pw wt er cv chain sp level special B hlev hlc J Jx (fun pre X m h => hA pre X _ none h ⟨rfl, rfl, rfl, Nat.le_refl _, fun _ _ _ => rfl⟩ (fun r e => by cases e)) hY W' s0 s1 s2 sP sC
    ((hk _ s0).trans k0) ((hk _ s1).trans k1) ((hk _ s2).trans k2) ((hk _ sP).trans hp) (hk.reads hr sC) h0).mono ?_
  rintro e W2 ⟨he, ⟨ys, rfl, hj⟩ | ⟨pre, hpre, hj⟩⟩
  · exact ⟨he, .inl ⟨_, rfl, hj⟩⟩
  · exact ⟨he, .inr ⟨_, hpre, hj⟩⟩
set_option maxHeartbeats 1000000 in
theorem moduli_in (n p : Nat) (level : Int) (special : Bool) (w : World) :
    CallsIn Fence.wide n Try.prog 49 #[.pointer (some ⟨p, 0, none⟩), .int .i64 level, .bool special] w fun e w' =>
      e = .returned (.func (.func 58) #[] #[.pointer (some ⟨w.heap.size, 0, none⟩), .pointer (some ⟨w.heap.size + 1, 0, none⟩), .pointer (some ⟨w.heap.size + 2, 0, none⟩)]) ∧
      w' = ((w.alloc (.cells #[.pointer (some ⟨p, 0, none⟩)] 55)).alloc (.cells #[.int .i64 level] 3)).alloc (.cells #[.bool special] 4) := by
  refine callsIn_of_wp Try.func49 rfl trivial ?_ rfl
  simp only [Try.ntmps49, List.size_toArray, List.length_cons, List.length_nil, Nat.reduceAdd, Nat.reduceSub, Array.replicate_succ, Array.replicate_zero, List.push_toArray, List.append_toArray, List.nil_append, List.cons_append]
  gi_wp2
  go_ret
  exact ⟨rfl, rfl⟩
end Go.Proofs.Ytpcpgmgpkegjlaa
