/- Maps with integer keys that the program made: 'Mp', and what a look-up, a store, a delete and len do to it. -/
import Derived.Test.YtidkapanpieflaaReg
import Derived.MapKept
import Derived.Maps.OwnOps
namespace Go.Proofs.Ytidkapanpieflaa
open Go.RowKit Go.MapKept
set_option linter.unusedVariables false
set_option linter.unusedSimpArgs false
def mget (m : List (Int × Value)) (k : Int) : Option Value := (m.find? fun p => p.1 == k).map (·.2)
def mput : List (Int × Value) → Int → Value → List (Int × Value)
  | [], k, v => [(k, v)]
  | (k', v') :: r, k, v => if k' = k then (k, v) :: r else (k', v') :: mput r k v
def mdel : List (Int × Value) → Int → List (Int × Value)
  | [], _ => []
  | (k', v') :: r, k => if k' = k then r else (k', v') :: mdel r k
/-- block b is a map that reads as m -/
def Mp (w : World) (b : Nat) (q : IntKind) (m : List (Int × Value)) : Prop :=
  ∃ es clock, w.heap[b]? = some (.map es clock) ∧ es.toList.map (fun e => (e.key, e.val)) = m.map (fun p => (Value.int q p.1, p.2)) ∧ MapKept.Stamped es clock
theorem Mp.made (w : World) (q : IntKind) : Mp (w.alloc (.map #[] 0)) w.heap.size q [] := ⟨#[], 0, allocNew w _, rfl, MapKept.stamped_empty 0⟩
theorem Mp.lt {w : World} {b : Nat} {q : IntKind} {m : List (Int × Value)} (h : Mp w b q m) : b < w.heap.size := by
  obtain ⟨es, c, hb, _⟩ := h; exact lt_of_block hb
theorem Mp.keep {w w' : World} {F : Nat → Prop} {b : Nat} {q : IntKind} {m : List (Int × Value)} (h : Mp w b q m) (hm : Mod F w w') (hn : ¬ F b) : Mp w' b q m := by
  obtain ⟨es, c, hb, hx⟩ := h; exact ⟨es, c, hm.keep hb hn, hx⟩
theorem Mp.alloc {w : World} {b : Nat} {q : IntKind} {m : List (Int × Value)} (h : Mp w b q m) (o : Obj) : Mp (w.alloc o) b q m := h.keep ((Mod.refl (fun _ => False) _).alloc o) (fun f => f)
theorem Mp.setCell {w : World} {b : Nat} {q : IntKind} {m : List (Int × Value)} (h : Mp w b q m) (a : Addr) (u : Value) (hn : b ≠ a.block) : Mp (w.setCell a u) b q m := by
  obtain ⟨es, c, hb, hx⟩ := h; exact ⟨es, c, setFar hb hn u, hx⟩
/-- a map's block is no block of cells -/
theorem Mp.ne {w : World} {b : Nat} {q : IntKind} {m : List (Int × Value)} (h : Mp w b q m) {p : Nat} {cs : Array Value} {t : TypeId} {z : Nat × Nat} (hp : w.heap[p]? = some (.cells cs t z)) : b ≠ p := by
  rintro rfl
  obtain ⟨es, c, hb, _⟩ := h
  rw [hb] at hp; cases hp
theorem Mp.neRow {w : World} {b : Nat} {q : IntKind} {m : List (Int × Value)} (h : Mp w b q m) {f : Nat → Prop} {e : TypeId} {sz : Nat} {v : Value} {n : Nat} {xs : List Value} (hr : Row w f e sz v n xs) : ¬ v.ownBlock = some b := by
  intro hv
  rcases hr.1.2 with ⟨rfl, _⟩ | ⟨g, cap, cur, rfl, _, hg, _⟩
  · simp [Value.ownBlock] at hv
  · simp [Value.ownBlock] at hv
    exact h.ne hg hv.symm
theorem mget_no {m : List (Int × Value)} {k : Int} (h : mget m k = none) : ∀ p ∈ m, k ≠ p.1 := fun p hp e => by
  unfold mget at h
  rw [Option.map_eq_none_iff, List.find?_eq_none] at h
  exact h p hp (by simp [e])
section
variable {P : Program}
theorem findNow_int {q : IntKind} (k : Int) : ∀ (es : List MapEntry) (m : List (Int × Value)) (i : Nat), es.map (fun e => (e.key, e.val)) = m.map (fun p => (Value.int q p.1, p.2)) →
    (mget m k = none ∧ mput m k = (fun v => m ++ [(k, v)]) ∧ mdel m k = m ∧ Instr.findNow (.int q) (.int q k) es i = some none) ∨
    ∃ j e, Instr.findNow (.int q) (.int q k) es i = some (some (i + j, e.val)) ∧ es[j]? = some e ∧ e.key = .int q k ∧ mget m k = some e.val ∧
      (∀ v, (es.set j { e with val := v }).map (fun e => (e.key, e.val)) = (mput m k v).map (fun p => (Value.int q p.1, p.2))) ∧
      (es.eraseIdx j).map (fun e => (e.key, e.val)) = (mdel m k).map (fun p => (Value.int q p.1, p.2))
  | [], m, i, h => by
    have : m = [] := by simpa using h
    subst this
    exact .inl ⟨rfl, by funext v; rfl, rfl, rfl⟩
  | e :: es, m, i, h => by
    match m, h with
    | [], h => simp at h
    | (k', v') :: r, h =>
      simp only [List.map_cons, List.cons.injEq, Prod.mk.injEq] at h
      obtain ⟨⟨h1, h2⟩, h3⟩ := h
      by_cases hk : k' = k
      · subst hk
        refine .inr ⟨0, e, ?_, rfl, h1, ?_, fun v => ?_, ?_⟩
        · simp [Instr.findNow, Instr.sameNow, h1]
        · simp [mget, h2]
        · simp [mput, h1, h3]
        · simp [mdel, h3]
      · have hk' : ¬ k = k' := fun e => hk e.symm
        have hs : Instr.findNow (.int q) (.int q k) (e :: es) i = Instr.findNow (.int q) (.int q k) es (i + 1) := by
          have hb : (k == k') = false := by simp [hk']
          simp [Instr.findNow, Instr.sameNow, h1, hb]
        rcases findNow_int k es r (i + 1) h3 with ⟨a1, a2, a3, a4⟩ | ⟨j, e0, a1, a2, a3, a4, a5, a6⟩
        · refine .inl ⟨?_, ?_, ?_, by rw [hs, a4]⟩
          · simpa [mget, hk] using a1
          · funext v; simp [mput, hk, a2]
          · simp [mdel, hk, a3]
        · refine .inr ⟨j + 1, e0, by rw [hs, a1]; simp; omega, by simpa using a2, a3, ?_, fun v => ?_, ?_⟩
          · simpa [mget, hk] using a4
          · simpa [mput, hk, h1, h2] using a5 v
          · simpa [mdel, hk, h1, h2] using a6
theorem isKey_int (q : IntKind) (k : Int) : IsKey (.int q) (.int q k) := rfl
/-- what a look-up tells: the element, or the zero value -/
theorem run_lookup_mp {t kt et : TypeId} {q : IntKind} {z : Value} (ht : P.underlying t = some (.map kt et)) (hk : P.underlying kt = some (.int q)) (hz : ∀ w, (zeroValue et).run P w = .ok z w) {w : World} {b : Nat} {m : List (Int × Value)} (h : Mp w b q m) (k : Int) (ok : Bool) :
    (Instr.lookup t (.map (some b)) (.int q k) ok).run P w = .ok (if ok then .tuple #[(mget m k).getD z, .bool (mget m k).isSome] else (mget m k).getD z) w := by
  obtain ⟨es, c, hb, hx, hst⟩ := h
  rcases findNow_int (q := q) k es.toList m 0 hx with ⟨a1, _, _, a4⟩ | ⟨j, e, a1, a2, a3, a4, _, _⟩
  · simp [Instr.lookup, run_underlying ht, MapKept.run_getObj_map hb, run_checkKey hk (isKey_int q k), run_findKey hk a4, hz, a1, Result.andThen]
  · simp [Instr.lookup, run_underlying ht, MapKept.run_getObj_map hb, run_checkKey hk (isKey_int q k), run_findKey hk a1, a4, Result.andThen]
theorem run_update_mp {t kt et : TypeId} {q : IntKind} (ht : P.underlying t = some (.map kt et)) (hk : P.underlying kt = some (.int q)) {w : World} {b : Nat} {m : List (Int × Value)} (h : Mp w b q m) (k : Int) (v : Value) :
    ∃ w', (Instr.mapUpdate t (.map (some b)) (.int q k) v).run P w = .ok () w' ∧ Mp w' b q (mput m k v) ∧ Mod (fun x => x = b) w w' := by
  obtain ⟨es, c, hb, hx, hst⟩ := h
  have mod : ∀ o, Mod (fun x => x = b) w { w with heap := w.heap.setIfInBounds b o } := fun o => ⟨rfl, rfl, rfl, by simp, fun k' _ hk' => (heap_set (o' := o) hb).2 k' hk'⟩
  rcases findNow_int (q := q) k es.toList m 0 hx with ⟨a1, a2, _, a4⟩ | ⟨j, e, a1, a2, a3, a4, a5, _⟩
  · refine ⟨_, by simp [Instr.mapUpdate, run_underlying ht, MapKept.run_getObj_map hb, run_checkKey hk (isKey_int q k), run_findKey hk a4, MapKept.run_setObj_map _ hb, Result.andThen] <;> rfl, ⟨_, _, (heap_set hb).1, ?_, MapKept.stamped_push hst fun x hx' e => ?_⟩, mod _⟩
    · rw [a2]
      simp [hx]
    · have hm : (x.key, x.val) ∈ m.map fun p => (Value.int q p.1, p.2) := by rw [← hx]; exact List.mem_map_of_mem hx'
      obtain ⟨p, hp, hpe⟩ := List.mem_map.1 hm
      injection hpe with e1 e2
      rw [e] at e1
      injection e1 with _ e3
      exact mget_no a1 p hp e3.symm
  · have hj : es[j]? = some e := by simpa using a2
    refine ⟨_, by simp [Instr.mapUpdate, run_underlying ht, MapKept.run_getObj_map hb, run_checkKey hk (isKey_int q k), run_findKey hk a1, hj, a3, run_keyThatStays (isKey_int q k), MapKept.run_setObj_map _ hb, Result.andThen] <;> rfl, ⟨_, _, (heap_set hb).1, ?_, MapKept.stamped_modify hst j (fun e => { e with key := Value.int q k, val := v }) (fun _ _ => rfl) (fun e' _ he' => by rw [hj] at he'; cases he'; exact a3.symm)⟩, mod _⟩
    rw [← a5 v]
    have : (es.modify j fun e => { e with key := Value.int q k, val := v }).toList = es.toList.set j { e with val := v } := by
      apply List.ext_getElem?
      intro i
      rw [List.getElem?_set]
      simp only [Array.getElem?_toList, Array.getElem?_modify]
      by_cases hij : j = i
      · subst hij
        have hlt : j < es.toList.length := by simpa using (Array.getElem?_eq_some_iff.1 hj).1
        rw [if_pos rfl, if_pos rfl, if_pos hlt, hj]
        simp [← a3]
      · rw [if_neg hij, if_neg hij]
    rw [this]
theorem run_delete_mp {t kt et ty u : TypeId} {q : IntKind} (ht : P.underlying t = some (.map kt et)) (hk : P.underlying kt = some (.int q)) {w : World} {b : Nat} {m : List (Int × Value)} (h : Mp w b q m) (k : Int) :
    ∃ w', (Builtin.delete_ #[t, u] ty #[.map (some b), .int q k]).run P w = .ok (.tuple #[]) w' ∧ Mp w' b q (mdel m k) ∧ Mod (fun x => x = b) w w' := by
  obtain ⟨es, c, hb, hx, hst⟩ := h
  have mod : ∀ o, Mod (fun x => x = b) w { w with heap := w.heap.setIfInBounds b o } := fun o => ⟨rfl, rfl, rfl, by simp, fun k' _ hk' => (heap_set (o' := o) hb).2 k' hk'⟩
  rcases findNow_int (q := q) k es.toList m 0 hx with ⟨a1, a2, a5, a4⟩ | ⟨j, e, a1, a2, a3, a4, _, a5⟩
  · refine ⟨_, by simp [Builtin.delete_, run_underlying ht, MapKept.run_getObj_map hb, run_checkKey hk (isKey_int q k), run_findKey hk a4, MapKept.run_setObj_map _ hb, Result.andThen] <;> rfl, ⟨_, _, (heap_set hb).1, ?_, hst⟩, mod _⟩
    rw [a5]
    exact hx
  · refine ⟨_, by simp [Builtin.delete_, run_underlying ht, MapKept.run_getObj_map hb, run_checkKey hk (isKey_int q k), run_findKey hk a1, MapKept.run_setObj_map _ hb, Result.andThen] <;> rfl, ⟨_, _, (heap_set hb).1, ?_, MapKept.stamped_erase hst j⟩, mod _⟩
    rw [← a5]
    have hlt : j < es.size := by simpa using (List.getElem?_eq_some_iff.1 a2).1
    simp [Array.eraseIdxIfInBounds, hlt]
theorem run_len_mp {t ty kt et : TypeId} {q : IntKind} (ht : P.underlying t = some (.map kt et)) {w : World} {b : Nat} {m : List (Int × Value)} (h : Mp w b q m) :
    (Builtin.len_ #[t] ty #[.map (some b)]).run P w = .ok (.int .i64 m.length) w := by
  obtain ⟨es, c, hb, hx, hst⟩ := h
  have hl : es.size = m.length := by have := congrArg List.length hx; simpa using this
  simp [Builtin.len_, run_underlying ht, MapKept.run_getObj_map hb, Result.andThen, hl, goInt]
/- at an operation -/
theorem exec_lookup_mp {o : Oper} {ev : Operand → Value} {t kt et : TypeId} {q : IntKind} {z : Value} (ht : P.underlying t = some (.map kt et)) (hk : P.underlying kt = some (.int q)) (hz : ∀ w, (zeroValue et).run P w = .ok z w) {x i : Operand} {ok : Bool}
    (ho : o.op = .lookup t x i ok) {b : Nat} {k : Int} (hx : ev x = .map (some b)) (hi : ev i = .int q k) {w : World} {m : List (Int × Value)} (h : Mp w b q m) :
    (execOp ev o).run P w = .ok (.value (if ok then .tuple #[(mget m k).getD z, .bool (mget m k).isSome] else (mget m k).getD z)) w := by
  have := run_lookup_mp ht hk hz h k ok
  simp only [execOp, ho, hx, hi, Sem.run_bind, this, Result.andThen]
  rfl
theorem wp_update_mp {o : Oper} {a : Act} {w : World} {K : Act → World → Prop} {Q : Exit → Act → World → Prop} {t kt et : TypeId} {q : IntKind} (ht : P.underlying t = some (.map kt et)) (hk : P.underlying kt = some (.int q)) {mo ko vo : Operand}
    (ho : o.op = .mapUpdate t mo ko vo) {b : Nat} {k : Int} {v : Value} {m : List (Int × Value)} (hm : a.eval mo = .map (some b)) (hko : a.eval ko = .int q k) (hv : a.eval vo = v) (h : Mp w b q m)
    (hK : ∀ w', Mp w' b q (mput m k v) → Mod (fun x => x = b) w w' → K (a.put o.dst undef) w') : o.wp P a w K Q := by
  obtain ⟨w', hrun, h1, h2⟩ := run_update_mp ht hk h k v
  unfold Oper.wp
  simp [execOp, ho, hm, hko, hv, hrun, Result.andThen]
  exact hK w' h1 h2
theorem wp_delete_mp {o : Oper} {a : Act} {w : World} {K : Act → World → Prop} {Q : Exit → Act → World → Prop} {t kt et u : TypeId} {q : IntKind} (ht : P.underlying t = some (.map kt et)) (hk : P.underlying kt = some (.int q)) {mo ko : Operand}
    (ho : o.op = .call { callee := .builtin .delete, args := #[mo, ko], argTypes := #[t, u] }) {b : Nat} {k : Int} {m : List (Int × Value)} (hm : a.eval mo = .map (some b)) (hko : a.eval ko = .int q k) (h : Mp w b q m)
    (hK : ∀ w', Mp w' b q (mdel m k) → Mod (fun x => x = b) w w' → K (a.put o.dst (.tuple #[])) w') : o.wp P a w K Q := by
  obtain ⟨w', hrun, h1, h2⟩ := run_delete_mp (ty := o.type) (u := u) ht hk h k
  unfold Oper.wp execOp
  simp only [ho, resolve, invoke, builtin, Sem.run_bind, Sem.run_pure, Result.andThen_ok, List.map_toArray, List.map_cons, List.map_nil, hm, hko, hrun]
  exact hK w' h1 h2
theorem exec_len_mp {o : Oper} {ev : Operand → Value} {t kt et : TypeId} {q : IntKind} (ht : P.underlying t = some (.map kt et)) {x : Operand}
    (ho : o.op = .call { callee := .builtin .len, args := #[x], argTypes := #[t] }) {b : Nat} (hx : ev x = .map (some b)) {w : World} {m : List (Int × Value)} (h : Mp w b q m) :
    (execOp ev o).run P w = .ok (.value (.int .i64 m.length)) w := by
  have := run_len_mp (ty := o.type) ht h
  unfold execOp
  simp only [ho, resolve, invoke, builtin, Sem.run_bind, Sem.run_pure, Result.andThen_ok, List.map_toArray, List.map_cons, List.map_nil, hx, this]
end
end Go.Proofs.Ytidkapanpieflaa
