/- Walks: a disk: all records are replaced: the text. -/
import Derived.Test.YtjfmcobikadjhaaDB6
namespace Go.Proofs.Ytjfmcobikadjhaa
set_option linter.all false
open Go.RowKit Go.Shelf
def needF (n : Nat) (l : List (List UInt8)) : Nat := l.foldl (fun m s => min (m + 13 + s.length) (n + 1)) 17
def encT (g : Nat) (l : List (List UInt8)) : List UInt8 := l.foldl (fun T s => T ++ 1 :: bodyL g (17 + T.length) s) []
def longAny (l : List (List UInt8)) : Bool := l.any fun s => decide (65535 < s.length)
theorem needF_snoc (n : Nat) (l : List (List UInt8)) (s : List UInt8) : needF n (l ++ [s]) = min (needF n l + 13 + s.length) (n + 1) := by unfold needF; rw [List.foldl_append]; rfl
theorem encT_snoc (g : Nat) (l : List (List UInt8)) (s : List UInt8) : encT g (l ++ [s]) = encT g l ++ 1 :: bodyL g (17 + (encT g l).length) s := by unfold encT; rw [List.foldl_append]; rfl
def sumR (l : List (List UInt8)) : Nat := l.foldl (fun m s => m + 13 + s.length) 17
theorem sumR_snoc (l : List (List UInt8)) (s : List UInt8) : sumR (l ++ [s]) = sumR l + 13 + s.length := by unfold sumR; rw [List.foldl_append]; rfl
theorem sumF_mono : ∀ (m : List (List UInt8)) (x : Nat), x ≤ m.foldl (fun m s => m + 13 + s.length) x := by
  intro m
  induction m with
  | nil => intro x; exact Nat.le_refl _
  | cons s m ih => intro x; rw [List.foldl_cons]; exact Nat.le_trans (by omega) (ih _)
theorem sumR_take (l : List (List UInt8)) (k : Nat) : sumR (l.take k) ≤ sumR l := by
  have h := List.take_append_drop k l
  have e : sumR l = (l.drop k).foldl (fun m s => m + 13 + s.length) (sumR (l.take k)) := by
    unfold sumR
    rw [← List.foldl_append, h]
  rw [e]
  exact sumF_mono _ _
theorem rev_ind {α : Type} {P : List α → Prop} (h0 : P []) (h1 : ∀ l x, P l → P (l ++ [x])) (l : List α) : P l := by
  have : ∀ l : List α, P l.reverse := by
    intro l
    induction l with
    | nil => exact h0
    | cons x l ih => rw [List.reverse_cons]; exact h1 _ _ ih
  rw [← List.reverse_reverse l]; exact this _
theorem needF_eq (n : Nat) (l : List (List UInt8)) (hn : 16 ≤ n) : needF n l = min (sumR l) (n + 1) := by
  induction l using rev_ind with
  | h0 => unfold needF sumR; simp; omega
  | h1 l s ih => rw [needF_snoc, sumR_snoc, ih]; omega
theorem needF_le (n : Nat) (l : List (List UInt8)) (hn : 16 ≤ n) : needF n l ≤ n + 1 := by rw [needF_eq n l hn]; omega
theorem encT_length (g : Nat) (l : List (List UInt8)) : (encT g l).length + 17 = sumR l := by
  induction l using rev_ind with
  | h0 => rfl
  | h1 l s ih => rw [encT_snoc, sumR_snoc, List.length_append, List.length_cons, bodyL_length]; omega
/-! ### the text's block -/
def padT (n : Nat) (T : List UInt8) : List UInt8 := T ++ List.replicate (n - T.length) 0
theorem padT_length (n : Nat) (T : List UInt8) (h : T.length ≤ n) : (padT n T).length = n := by unfold padT; rw [List.length_append, List.length_replicate]; omega
def TextAt (w : World) (b n : Nat) (T : List UInt8) : Prop := w.heap[b]? = some (.cells ((padT n T).map byteV).toArray 5)
theorem padT_write (n : Nat) (T s : List UInt8) (h : T.length + s.length ≤ n) :
    (((padT n T).map byteV).toArray.toList.take T.length ++ s.map byteV ++ ((padT n T).map byteV).toArray.toList.drop (T.length + s.length)) = (padT n (T ++ s)).map byteV := by
  unfold padT
  simp only [List.toList_toArray, List.map_append, List.map_replicate, List.length_append]
  rw [List.take_left' (by simp), List.drop_append, List.drop_of_length_le (by simp), List.length_map, List.nil_append, List.drop_replicate, List.append_assoc]
  rw [show n - T.length - (T.length + s.length - T.length) = n - (T.length + s.length) by omega, List.append_assoc]
theorem kp_setRow (w : World) (g : Nat) (cs : Array Value) : Kp (fun k => k = g) w (w.setRow g cs) :=
  ⟨rfl, rfl, rfl, by simp [World.setRow], fun k _ hk => setRow_other w g k _ hk⟩
theorem text_one (w : World) (b n : Nat) (T : List UInt8) (c : UInt8) (ty : TypeId) (h : TextAt w b n T) (hr : T.length + 1 ≤ n) (a : Addr) (cp : Nat) (hc : w.cell? a = some (byteV c)) :
    ∃ w', (Builtin.append_ #[49, 49] ty #[.slice (some ⟨b, 0, none⟩) T.length n, .slice (some a) 1 cp]).run Try.prog w = .ok (.slice (some ⟨b, 0, none⟩) (T.length + 1) n) w' ∧ TextAt w' b n (T ++ [c]) ∧ Kp (fun k => k = b) w w' := by
  obtain ⟨i0, hi, hz, h1, h2⟩ := info_parts infoByte
  have hrun := run_append_room (P := Try.prog) w 49 ty 5 i0 Try.underlying49 hi b T.length n _ h a 1 cp [byteV c] (by rw [h1]; rfl) (fun j u hj => by
    cases j with
    | zero => simp at hj; subst hj; simpa [Addr.add] using hc
    | succ j => simp at hj) (by intro u hu; simp at hu; subst hu; rfl) hr (by rw [h1]; simp [padT_length n T (by omega)]; omega)
  rw [h1, Nat.mul_one] at hrun
  refine ⟨_, hrun, ?_, kp_setRow _ _ _⟩
  have := padT_write n T [c] hr
  show (w.setRow b _).heap[b]? = _
  rw [setRow_heap w b _ _ _ _ h]
  congr 2
  exact congrArg List.toArray this
theorem text_str (w : World) (b n : Nat) (T s : List UInt8) (ty : TypeId) (h : TextAt w b n T) (hr : T.length + s.length ≤ n) :
    ∃ w', (Builtin.append_ #[49, 9] ty #[.slice (some ⟨b, 0, none⟩) T.length n, .string (bytesOf s)]).run Try.prog w = .ok (.slice (some ⟨b, 0, none⟩) (T.length + s.length) n) w' ∧ TextAt w' b n (T ++ s) ∧ Kp (fun k => k = b) w w' := by
  obtain ⟨i0, hi, hz, h1, h2⟩ := info_parts infoByte
  have hrun := Lib.run_append_room_string (P := Try.prog) w 49 9 ty 5 i0 Try.underlying49 Try.underlying9 hi h1 b T.length n _ h (bytesOf s) hr (by show T.length + s.length ≤ _; simp [padT_length n T (by omega)]; omega)
  refine ⟨_, hrun, ?_, kp_setRow _ _ _⟩
  have := padT_write n T s hr
  show (w.setRow b _).heap[b]? = _
  rw [setRow_heap w b _ _ _ _ h]
  congr 2
  exact congrArg List.toArray this
theorem wpList_app_run {P : Program} (w : World) {ops : Array Oper} {rest : List Oper} {o : Oper} {a : Act} {Q : Exit → Act → World → Prop} (hgd : o.guard = none) (d s : Operand) (t t' : TypeId)
    (ho : o.op = .call { callee := .builtin .append, args := #[d, s], argTypes := #[t, t'] }) (v u : Value) (hd : a.eval d = v) (hs : a.eval s = u) {v' : Value} {w' : World}
    (hr : (Builtin.append_ #[t, t'] o.type #[v, u]).run P w = .ok v' w') (h : wpList P ops Q rest (a.put o.dst v') w') : wpList P ops Q (o :: rest) a w := by
  refine wpList_plain hgd fun K hK => ?_
  unfold Oper.wp execOp
  simp only [ho, resolve, invoke, builtin, Sem.run_bind, Sem.run_pure, Result.andThen_ok, List.map_toArray, List.map_cons, List.map_nil, hd, hs, hr]
  exact hK _ _ h
end Go.Proofs.Ytjfmcobikadjhaa
