/- Two addresses (a struct that holds an array of bytes) held against each other: one law, whatever the bytes are. -/
import Derived.Test.YtcccdlmngddalaaGreatRng
import Derived.Laws.StructEq
set_option linter.unusedVariables false
set_option linter.unusedSimpArgs false
namespace Go.Proofs.YtcccdlmngddalaaGreat
open Go.RowKit Go.Op
theorem run_part_int {P : Program} {e : TypeId} {k : IntKind} (hagg : ∀ w, (isAgg e).run P w = .ok false w) (xs : List Int) (i : Nat) (h : i < xs.length) (w : World) : (part e (xs.map (Value.int k)).toArray i).run P w = .ok (.int k xs[i]) w := by
  simp [part, Sem.run_bind, hagg, Result.andThen, h]
theorem run_equalIn_arr {P : Program} (w : World) (d : Nat) {t e : TypeId} {k k' : IntKind} (xs ys : List Int) (len : Nat) (ht : P.underlying t = some (.array len e)) (he : P.underlying e = some (.int k')) (hs : ∀ w, (sizeOf e).run P w = .ok 1 w) (hagg : ∀ w, (isAgg e).run P w = .ok false w) (hx : xs.length = len) (hy : ys.length = len) :
    (Op.equalIn (d + 2) t (.agg (xs.map (Value.int k)).toArray) (.agg (ys.map (Value.int k)).toArray)).run P w = .ok (decide (xs = ys)) w := by
  rw [Op.equalIn]
  simp only [Sem.run_bind, run_underlying ht, Result.andThen_ok, hs, Std.Legacy.Range.forIn_eq_forIn_range', Std.Legacy.Range.size, Nat.sub_zero, Nat.add_sub_cancel, Nat.div_one, Nat.mul_one]
  have key : ∀ (n a : Nat), a + n = len → xs.take a = ys.take a → ∀ (body : Nat → Option Bool × Unit → Sem (ForInStep (Option Bool × Unit))), 
      (∀ i s, i < len → (body i s).run P w = .ok (if xs[i]? = ys[i]? then .yield ⟨none, ()⟩ else .done ⟨some false, ()⟩) w) →
      (forIn (List.range' a n) (⟨none, ()⟩ : Option Bool × Unit) body).run P w = .ok (if xs = ys then ⟨none, ()⟩ else ⟨some false, ()⟩) w := by
    intro n
    induction n with
    | zero =>
      intro a ha hp body hb
      have : xs = ys := by rw [List.take_of_length_le (by omega), List.take_of_length_le (by omega)] at hp; exact hp
      simp [this]
    | succ n ih =>
      intro a ha hp body hb
      rw [List.range'_succ, List.forIn_cons, Sem.run_bind, hb a _ (by omega), Result.andThen_ok]
      by_cases h : xs[a]? = ys[a]?
      · simp only [h, if_true]
        exact ih (a + 1) (by omega) (by rw [List.take_add_one, List.take_add_one, hp, h]) body hb
      · have hne : xs ≠ ys := fun e => h (by rw [e])
        simp [h, hne]
  have hb : ∀ i (s : Option Bool × Unit), i < len → ((do
      let a ← part e (xs.map (Value.int k)).toArray i
      let b ← part e (ys.map (Value.int k)).toArray i
      let r ← Op.equalIn (d + 1) e a b
      if (!r) = true then pure (ForInStep.done ⟨some false, ()⟩) else pure (ForInStep.yield ⟨none, ()⟩) : Sem (ForInStep (Option Bool × Unit)))).run P w = .ok (if xs[i]? = ys[i]? then .yield ⟨none, ()⟩ else .done ⟨some false, ()⟩) w := by
    intro i s hi
    have h1 : i < xs.length := by omega
    have h2 : i < ys.length := by omega
    simp only [Sem.run_bind, run_part_int hagg xs i h1, run_part_int hagg ys i h2, Result.andThen_ok, run_equalIn_int w d e k k' _ _ he]
    by_cases h : xs[i] = ys[i]
    · simp [h, h1, h2]
    · simp [h, h1, h2]
  have hk := key len 0 (by omega) rfl _ hb
  rw [show (Sem.run P (forIn (List.range' 0 len) _ _) w) = _ from hk]
  by_cases h : xs = ys <;> simp [h]
def adrC (v : Bool) (xs : List Int) : List Value := .bool v :: xs.map (Value.int .u8)
theorem adr_tail (v : Bool) (xs : List Int) (h : xs.length = 16) : Array.extract (adrC v xs).toArray 1 17 = (xs.map (Value.int .u8)).toArray := by
  unfold adrC
  simp [List.extract_toArray, List.extract]
  exact List.take_of_length_le (by simp [h])
section
variable {P : Program} {t ta tb e : TypeId} {k' : IntKind}
theorem eqIn_addr (ht : P.underlying t = some (.struct #[{ name := "V6", type := tb, offset := 0, embedded := false, tag := "", pkgPath := "", byteOffset := 0 }, { name := "B", type := ta, offset := 1, embedded := false, tag := "", pkgPath := "", byteOffset := 1 }]))
    (hta : P.underlying ta = some (.array 16 e)) (htb : P.underlying tb = some .bool) (hte : P.underlying e = some (.int k')) (hst : P.stoodInHeld t = false)
    (hs : ∀ w, (sizeOf e).run P w = .ok 1 w) (hagg : ∀ w, (isAgg e).run P w = .ok false w) (hsa : ∀ w, (sizeOf ta).run P w = .ok 16 w) (haa : ∀ w, (isAgg ta).run P w = .ok true w) (hab : ∀ w, (isAgg tb).run P w = .ok false w)
    (w : World) (d : Nat) (v v' : Bool) (xs ys : List Int) (hx : xs.length = 16) (hy : ys.length = 16) :
    (Op.equalIn (d + 3) t (.agg (adrC v xs).toArray) (.agg (adrC v' ys).toArray)).run P w = .ok (decide (v = v' ∧ xs = ys)) w := by
  have h2 := run_equalIn_arr w d (k := .u8) xs ys 16 hta hte hs hagg hx hy
  have hf : P.fieldsOf t = #[{ name := "V6", type := tb, offset := 0, embedded := false, tag := "", pkgPath := "", byteOffset := 0 }, { name := "B", type := ta, offset := 1, embedded := false, tag := "", pkgPath := "", byteOffset := 1 }] := by
    unfold Program.fieldsOf
    rw [ht]
  have p0 : ∀ (v : Bool) (xs : List Int), (part tb (adrC v xs).toArray 0).run P w = .ok (.bool v) w := fun v xs => by
    simp [part, Sem.run_bind, hab, Result.andThen, adrC]
  have p1 : ∀ (v : Bool) (xs : List Int), xs.length = 16 → (part ta (adrC v xs).toArray 1).run P w = .ok (.agg (xs.map (Value.int .u8)).toArray) w := fun v xs h => by
    have := adr_tail v xs h
    simp only [part, Sem.run_bind, haa, Result.andThen_ok, if_true, hsa, Sem.run_pure, Nat.reduceAdd, this]
  have q1 := p1 v xs hx
  have q2 := p1 v' ys hy
  rw [run_equalIn_agg w (d + 2) t _ _ (by rw [hf]; exact ht) hst, hf]
  simp only [Op.eqFields, ne_eq, String.reduceEq, not_false_eq_true, if_true, Sem.run_bind, p0, Result.andThen_ok, run_equalIn_bool w (d + 1) _ _ _ htb]
  by_cases h : v = v'
  · subst h
    by_cases h' : xs = ys
    · subst h'
      simp [q1, h2]
    · simp [q1, q2, h2, h']
  · simp [h]
end
theorem adrSize : (Tryz.prog.info? 36).map (·.size) = some 17 := by kernel_rfl
theorem adr_stood : Tryz.prog.stoodInHeld 36 = false := by kernel_rfl
theorem adr_guard : Tryz.prog.eqGuardType Tryz.prog.depth 36 = false := by kernel_rfl
theorem eqIn_adr (w : World) (d : Nat) (v v' : Bool) (xs ys : List Int) (hx : xs.length = 16) (hy : ys.length = 16) :
    (Op.equalIn (d + 3) 36 (.agg (adrC v xs).toArray) (.agg (adrC v' ys).toArray)).run Tryz.prog w = .ok (decide (v = v' ∧ xs = ys)) w :=
  eqIn_addr Tryz.underlying36 Tryz.underlying34 Tryz.underlying4 Tryz.underlying5 adr_stood Tryz.sizeOf5 Tryz.isAgg5 Tryz.sizeOf34 Tryz.isAgg34 Tryz.isAgg4 w d v v' xs ys hx hy
theorem exec_eq {P : Program} {ev : Operand → Value} {op : Oper} {x y : Operand} {t q : TypeId} (ho : op.op = .binOp .eql t x y q) {xs ys : Array Value} (ex : ev x = .agg xs) (ey : ev y = .agg ys) {b : Bool} {w : World} (hg : P.eqGuardType P.depth t = false) (h : (Op.equalIn 10000 t (.agg xs) (.agg ys)).run P w = .ok b w) :
    (execOp ev op).run P w = .ok (.value (.bool b)) w := by
  simp only [execOp, ho, ex, ey, Sem.run_bind, run_eqGuard_agg w _ t _ _ _ _ hg, run_eql_struct, h, Result.andThen_ok, Sem.run_pure]
theorem exec_eq_adr {ev : Operand → Value} {op : Oper} {x y : Operand} {q : TypeId} (ho : op.op = .binOp .eql 36 x y q) (v v' : Bool) (xs ys : List Int) (hx : xs.length = 16) (hy : ys.length = 16) (ex : ev x = .agg (adrC v xs).toArray) (ey : ev y = .agg (adrC v' ys).toArray) (w : World) :
    (execOp ev op).run Tryz.prog w = .ok (.value (.bool (decide (v = v' ∧ xs = ys)))) w :=
  exec_eq ho ex ey adr_guard (eqIn_adr w 9997 v v' xs ys hx hy)
end Go.Proofs.YtcccdlmngddalaaGreat
