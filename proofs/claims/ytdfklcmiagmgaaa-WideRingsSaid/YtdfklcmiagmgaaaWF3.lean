/- Walks: words that are appended; what norm leaves of a slice that is owned. -/
import Derived.Test.YtdfklcmiagmgaaaWF2
namespace Go.Proofs.Ytdfklcmiagmgaaa
set_option linter.all false
open Go.RowKit Go.Shelf Go.WideNum
theorem app_u32 {ops : Array Oper} {rest : List Oper} {o : Oper} {a : Act} {Q : Exit → Act → World → Prop} (W : World) (T : TypeId) (hT : Try.prog.underlying T = some (.slice 47)) (hg : o.guard = none) (s x : Operand)
    (hop : o.op = .call { callee := .builtin .append, args := #[s, x], argTypes := #[T, T] })
    (base : Nat) (v : Value) (n : Nat) (xs : List Value) (hs : a.eval s = v) (hown : W.owns base 47 1 v n xs) (u : Int) (H : Nat) (hH : W.heap.size = H) (hx : a.eval x = .slice (some ⟨H, 0, none⟩) 1 1)
    (hn : n ≤ 1000000) (hbase : base ≤ W.heap.size)
    (h : ∀ v' w', w'.owns base 47 1 v' (n + 1) (xs ++ [.int .u32 u]) → W.grownBy w' v.ownBlock → W.heap.size < w'.heap.size → wpList Try.prog ops Q rest (a.put o.dst v') w') : wpList Try.prog ops Q (o :: rest) a (W.alloc (.cells #[.int .u32 u] 47)) := by
  obtain ⟨i0, hi, hz, h1, h2⟩ := info_parts infoU32
  exact wpList_append1 W hg s x T hop base 47 i0 (.int .u32 0) 4 hT hi hz h1 h2 rfl v n xs hs hown (.int .u32 u) H hH hx rfl (by unfold maxLen; omega) (by omega) hbase (fun v' w' h1 _ h3 h4 => h v' w' h1 h3 h4)
theorem World.owns.takeR {W : World} {base n m : Nat} {T : TypeId} {a : Option Addr} {c : Nat} {xs : List Value} (h : W.owns base T 1 (.slice a n c) n xs) (hm : m ≤ n) (ha : a ≠ none) : W.owns base T 1 (.slice a m c) m (xs.take m) := by
  obtain ⟨h1, h2⟩ := h
  refine ⟨by rw [List.length_take]; omega, ?_⟩
  rcases h2 with ⟨e, _⟩ | ⟨g, cap, cur, fz, e, hb, hg, hf, hn, hmx, hs, ht⟩
  · injection e with e1; exact absurd e1 ha
  · injection e with e1 _ e3
    subst e1 e3
    refine .inr ⟨g, c, cur, fz, rfl, hb, hg, hf, by omega, hmx, hs, ?_⟩
    rw [← ht, List.take_take, Nat.mul_one, Nat.mul_one, Nat.min_eq_left hm]
theorem norm_own (l : List Nat) (base : Nat) (v : Value) (W : World) (h : W.owns base 47 1 v l.length (l.map u32V)) (hl : l.length ≤ 100000) :
    Calls Try.prog 52 #[v] W fun e w' => (∃ v', e = .returned v' ∧ W.owns base 47 1 v' (trimL l).length ((trimL l).map u32V)) ∧ W = w' := by
  obtain ⟨a, c, rfl, hca, hmx, hsh⟩ := reads_u32 h.reads
  refine (norm_any l a c hl hca W (fun j x hj => by obtain ⟨b, off, h1, _, h2⟩ := hsh j x hj; exact ⟨b, off, h1, h2⟩)).mono ?_
  rintro e w' ⟨rfl, rfl⟩
  refine ⟨⟨_, rfl, ?_⟩, rfl⟩
  cases a with
  | none =>
    have h0 : l.length = 0 := by
      rcases h.2 with ⟨e, h0⟩ | ⟨g, cap, cur, fz, e, _⟩
      · exact h0
      · cases e
    have : l = [] := List.eq_nil_of_length_eq_zero h0
    subst this
    exact h
  | some a =>
    have := World.owns.takeR h (trimL_len l) (by simp)
    rwa [← List.map_take, trimL_take] at this
theorem num_own {w W : World} {m n : Nat} {v : Value} (h : W.owns w.heap.size 47 1 v (trimL ((List.range m).map (dig 4294967296 n))).length ((trimL ((List.range m).map (dig 4294967296 n))).map u32V)) (hb : Below w.heap.size w W) (hn : n < 4294967296 ^ m) :
    NumRet w n (.returned v) W := by
  rw [range_wd n m hn] at h
  exact ⟨v, rfl, h, hb⟩
theorem make_nat2 (l n : Nat) (hl : l ≤ n) (hn : n ≤ 100000) (W : World) : (Instr.makeSlice 58 (.int .i64 (l : Int)) (.int .i64 (n : Int))).run Try.prog W = .ok (.slice (some ⟨W.heap.size, 0, none⟩) l n) (W.alloc (.cells (zrow n) 47)) := by
  obtain ⟨i0, hi, hz, h1, h2⟩ := info_parts infoU32
  have := run_make (P := Try.prog) W 58 47 i0 (.int .u32 0) Try.underlying58 hi hz .i64 .i64 (l : Int) (n : Int) (by omega) (by omega) (by rw [h2]; omega) (by omega)
  simp only [Int.toNat_natCast, h1] at this
  rw [this, made_zrow]
theorem make_u322 (l n : Nat) (hl : l ≤ n) (hn : n ≤ 100000) (W : World) : (Instr.makeSlice 57 (.int .i64 (l : Int)) (.int .i64 (n : Int))).run Try.prog W = .ok (.slice (some ⟨W.heap.size, 0, none⟩) l n) (W.alloc (.cells (zrow n) 47)) := by
  obtain ⟨i0, hi, hz, h1, h2⟩ := info_parts infoU32
  have := run_make (P := Try.prog) W 57 47 i0 (.int .u32 0) Try.underlying57 hi hz .i64 .i64 (l : Int) (n : Int) (by omega) (by omega) (by rw [h2]; omega) (by omega)
  simp only [Int.toNat_natCast, h1] at this
  rw [this, made_zrow]
/-- A new row of zeros is owned. -/
theorem owns_zrow {W : World} {base g l n : Nat} {T : TypeId} (h : W.heap[g]? = some (.cells (zrow n) T)) (hb : base ≤ g) (hl : l ≤ n) (hn : n ≤ 100000) : W.owns base T 1 (.slice (some ⟨g, 0, none⟩) l n) l ((List.replicate l 0).map u32V) := by
  refine ⟨by simp, .inr ⟨g, n, _, (0, 0), rfl, hb, h, okFz_zero _, hl, by unfold maxLen; omega, by simp [zrow], ?_⟩⟩
  simp [zrow, u32V]
  omega
theorem or_hi (k : IntKind) (hk : k = .u64 ∨ k = .u32) (s a b : Nat) (hb : b < 2 ^ s) (h : a * 2 ^ s + b < 2 ^ (if k = .u64 then 64 else 32)) : bits .or k (b : Int) (((a * 2 ^ s : Nat)) : Int) = ((b + a * 2 ^ s : Nat) : Int) := by
  rw [Nat.add_comm, ← or_lo k hk s a b hb h]
  rcases hk with rfl | rfl
  · show IntKind.u64.wrap ((BitVec.ofInt 64 _ ||| BitVec.ofInt 64 _).toNat : Int) = IntKind.u64.wrap ((BitVec.ofInt 64 _ ||| BitVec.ofInt 64 _).toNat : Int)
    rw [BitVec.or_comm]
  · show IntKind.u32.wrap ((BitVec.ofInt 32 _ ||| BitVec.ofInt 32 _).toNat : Int) = IntKind.u32.wrap ((BitVec.ofInt 32 _ ||| BitVec.ofInt 32 _).toNat : Int)
    rw [BitVec.or_comm]
end Go.Proofs.Ytdfklcmiagmgaaa
