/- A version's index, filled once: (*table.version).find's inner function: contract. -/
import Derived.Test.YtegjamjognpdkaaReg
import Derived.MapKept
import Derived.Maps.OwnOps
import Derived.Test.YtegjamjognpdkaaOfP
import Derived.WideKeyRuns
import Derived.Test.YtegjamjognpdkaaOwnB
namespace Go.Proofs.Ytegjamjognpdkaa
open Go.RowKit Go.MapKept
set_option linter.unusedVariables false
set_option linter.unusedSimpArgs false
def mget (m : List (Int × Value)) (k : Int) : Option Value := (m.find? fun p => p.1 == k).map (·.2)
def mput : List (Int × Value) → Int → Value → List (Int × Value)
  | [], k, v => [(k, v)]
  | (k', v') :: r, k, v => if k' = k then (k, v) :: r else (k', v') :: mput r k v
def mdel : List (Int × Value) → Int → List (Int × Value)
  | [], _ => []
  | (k', v') :: r, k => if k' = k then r else (k', v') :: mdel r k
/-- block b is a map that reads as m -/
def Mp (w : World) (b : Nat) (q : IntKind) (m : List (Int × Value)) : Prop :=
  ∃ es clock, w.heap[b]? = some (.map es clock) ∧ es.toList.map (fun e => (e.key, e.val)) = m.map fun p => (Value.int q p.1, p.2)
theorem Mp.lt {w : World} {b : Nat} {q : IntKind} {m : List (Int × Value)} (h : Mp w b q m) : b < w.heap.size := by
  obtain ⟨es, c, hb, _⟩ := h; exact lt_of_block hb
theorem Mp.keep {w w' : World} {F : Nat → Prop} {b : Nat} {q : IntKind} {m : List (Int × Value)} (h : Mp w b q m) (hm : Mod F w w') (hn : ¬ F b) : Mp w' b q m := by
  obtain ⟨es, c, hb, hx⟩ := h; exact ⟨es, c, hm.keep hb hn, hx⟩
theorem Mp.alloc {w : World} {b : Nat} {q : IntKind} {m : List (Int × Value)} (h : Mp w b q m) (o : Obj) : Mp (w.alloc o) b q m := h.keep ((Mod.refl (fun _ => False) _).alloc o) (fun f => f)
theorem Mp.setCell {w : World} {b : Nat} {q : IntKind} {m : List (Int × Value)} (h : Mp w b q m) (a : Addr) (u : Value) (hn : b ≠ a.block) : Mp (w.setCell a u) b q m := by
  obtain ⟨es, c, hb, hx⟩ := h; exact ⟨es, c, setFar hb hn u, hx⟩
/-- a map's block is no block of cells -/
theorem Mp.ne {w : World} {b : Nat} {q : IntKind} {m : List (Int × Value)} (h : Mp w b q m) {p : Nat} {cs : Array Value} {t : TypeId} {z : Nat × Nat} (hp : w.heap[p]? = some (.cells cs t z)) : b ≠ p := by
  rintro rfl
  obtain ⟨es, c, hb, _⟩ := h
  rw [hb] at hp; cases hp
theorem Mp.neRow {w : World} {b : Nat} {q : IntKind} {m : List (Int × Value)} (h : Mp w b q m) {f : Nat → Prop} {e : TypeId} {sz : Nat} {v : Value} {n : Nat} {xs : List Value} (hr : Row w f e sz v n xs) : ¬ v.ownBlock = some b := by
  intro hv
  rcases hr.1.2 with ⟨rfl, _⟩ | ⟨g, cap, cur, rfl, _, hg, _⟩
  · simp [Value.ownBlock] at hv
  · simp [Value.ownBlock] at hv
    exact h.ne hg hv.symm
section
variable {P : Program}
theorem findNow_int {q : IntKind} (k : Int) : ∀ (es : List MapEntry) (m : List (Int × Value)) (i : Nat), es.map (fun e => (e.key, e.val)) = m.map (fun p => (Value.int q p.1, p.2)) →
    (mget m k = none ∧ mput m k = (fun v => m ++ [(k, v)]) ∧ mdel m k = m ∧ Instr.findNow (.int q) (.int q k) es i = some none) ∨
    ∃ j e, Instr.findNow (.int q) (.int q k) es i = some (some (i + j, e.val)) ∧ es[j]? = some e ∧ e.key = .int q k ∧ mget m k = some e.val ∧
      (∀ v, (es.set j { e with val := v }).map (fun e => (e.key, e.val)) = (mput m k v).map (fun p => (Value.int q p.1, p.2))) ∧
      (es.eraseIdx j).map (fun e => (e.key, e.val)) = (mdel m k).map (fun p => (Value.int q p.1, p.2))
  | [], m, i, h => by
    have : m = [] := by simpa using h
    subst this
    exact .inl ⟨rfl, by funext v; rfl, rfl, rfl⟩
  | e :: es, m, i, h => by
    match m, h with
    | [], h => simp at h
    | (k', v') :: r, h =>
      simp only [List.map_cons, List.cons.injEq, Prod.mk.injEq] at h
      obtain ⟨⟨h1, h2⟩, h3⟩ := h
      by_cases hk : k' = k
      · subst hk
        refine .inr ⟨0, e, ?_, rfl, h1, ?_, fun v => ?_, ?_⟩
        · simp [Instr.findNow, Instr.sameNow, h1]
        · simp [mget, h2]
        · simp [mput, h1, h3]
        · simp [mdel, h3]
      · have hk' : ¬ k = k' := fun e => hk e.symm
        have hs : Instr.findNow (.int q) (.int q k) (e :: es) i = Instr.findNow (.int q) (.int q k) es (i + 1) := by
          have hb : (k == k') = false := by simp [hk']
          simp [Instr.findNow, Instr.sameNow, h1, hb]
        rcases findNow_int k es r (i + 1) h3 with ⟨a1, a2, a3, a4⟩ | ⟨j, e0, a1, a2, a3, a4, a5, a6⟩
        · refine .inl ⟨?_, ?_, ?_, by rw [hs, a4]⟩
          · simpa [mget, hk] using a1
          · funext v; simp [mput, hk, a2]
          · simp [mdel, hk, a3]
        · refine .inr ⟨j + 1, e0, by rw [hs, a1]; simp; omega, by simpa using a2, a3, ?_, fun v => ?_, ?_⟩
          · simpa [mget, hk] using a4
          · simpa [mput, hk, h1, h2] using a5 v
          · simpa [mdel, hk, h1, h2] using a6
theorem isKey_int (q : IntKind) (k : Int) : IsKey (.int q) (.int q k) := rfl
/-- what a look-up tells: the element, or the zero value -/
theorem run_lookup_mp {t kt et : TypeId} {q : IntKind} {z : Value} (ht : P.underlying t = some (.map kt et)) (hk : P.underlying kt = some (.int q)) (hz : ∀ w, (zeroValue et).run P w = .ok z w) {w : World} {b : Nat} {m : List (Int × Value)} (h : Mp w b q m) (k : Int) (ok : Bool) :
    (Instr.lookup t (.map (some b)) (.int q k) ok).run P w = .ok (if ok then .tuple #[(mget m k).getD z, .bool (mget m k).isSome] else (mget m k).getD z) w := by
  obtain ⟨es, c, hb, hx⟩ := h
  rcases findNow_int (q := q) k es.toList m 0 hx with ⟨a1, _, _, a4⟩ | ⟨j, e, a1, a2, a3, a4, _, _⟩
  · simp [Instr.lookup, run_underlying ht, MapKept.run_getObj_map hb, run_checkKey hk (isKey_int q k), run_findKey hk a4, hz, a1, Result.andThen]
  · simp [Instr.lookup, run_underlying ht, MapKept.run_getObj_map hb, run_checkKey hk (isKey_int q k), run_findKey hk a1, a4, Result.andThen]
theorem run_update_mp {t kt et : TypeId} {q : IntKind} (ht : P.underlying t = some (.map kt et)) (hk : P.underlying kt = some (.int q)) {w : World} {b : Nat} {m : List (Int × Value)} (h : Mp w b q m) (k : Int) (v : Value) :
    ∃ w', (Instr.mapUpdate t (.map (some b)) (.int q k) v).run P w = .ok () w' ∧ Mp w' b q (mput m k v) ∧ Mod (fun x => x = b) w w' := by
  obtain ⟨es, c, hb, hx⟩ := h
  have mod : ∀ o, Mod (fun x => x = b) w { w with heap := w.heap.setIfInBounds b o } := fun o => ⟨rfl, rfl, rfl, by simp, fun k' _ hk' => (heap_set (o' := o) hb).2 k' hk'⟩
  rcases findNow_int (q := q) k es.toList m 0 hx with ⟨a1, a2, _, a4⟩ | ⟨j, e, a1, a2, a3, a4, a5, _⟩
  · refine ⟨_, by simp [Instr.mapUpdate, run_underlying ht, MapKept.run_getObj_map hb, run_checkKey hk (isKey_int q k), run_findKey hk a4, MapKept.run_setObj_map _ hb, Result.andThen]; rfl, ⟨_, _, (heap_set hb).1, ?_⟩, mod _⟩
    rw [a2]
    simp [hx]
  · have hj : es[j]? = some e := by simpa using a2
    refine ⟨_, by simp [Instr.mapUpdate, run_underlying ht, MapKept.run_getObj_map hb, run_checkKey hk (isKey_int q k), run_findKey hk a1, hj, a3, run_keyThatStays (isKey_int q k), MapKept.run_setObj_map _ hb, Result.andThen]; rfl, ⟨_, _, (heap_set hb).1, ?_⟩, mod _⟩
    rw [← a5 v]
    have : (es.modify j fun e => { e with key := Value.int q k, val := v }).toList = es.toList.set j { e with val := v } := by
      apply List.ext_getElem?
      intro i
      rw [List.getElem?_set]
      simp only [Array.getElem?_toList, Array.getElem?_modify]
      by_cases hij : j = i
      · subst hij
        have hlt : j < es.toList.length := by simpa using (Array.getElem?_eq_some_iff.1 hj).1
        rw [if_pos rfl, if_pos rfl, if_pos hlt, hj]
        simp [← a3]
      · rw [if_neg hij, if_neg hij]
    rw [this]
theorem run_delete_mp {t kt et ty u : TypeId} {q : IntKind} (ht : P.underlying t = some (.map kt et)) (hk : P.underlying kt = some (.int q)) {w : World} {b : Nat} {m : List (Int × Value)} (h : Mp w b q m) (k : Int) :
    ∃ w', (Builtin.delete_ #[t, u] ty #[.map (some b), .int q k]).run P w = .ok (.tuple #[]) w' ∧ Mp w' b q (mdel m k) ∧ Mod (fun x => x = b) w w' := by
  obtain ⟨es, c, hb, hx⟩ := h
  have mod : ∀ o, Mod (fun x => x = b) w { w with heap := w.heap.setIfInBounds b o } := fun o => ⟨rfl, rfl, rfl, by simp, fun k' _ hk' => (heap_set (o' := o) hb).2 k' hk'⟩
  rcases findNow_int (q := q) k es.toList m 0 hx with ⟨a1, a2, a5, a4⟩ | ⟨j, e, a1, a2, a3, a4, _, a5⟩
  · refine ⟨_, by simp [Builtin.delete_, run_underlying ht, MapKept.run_getObj_map hb, run_checkKey hk (isKey_int q k), run_findKey hk a4, MapKept.run_setObj_map _ hb, Result.andThen]; rfl, ⟨_, _, (heap_set hb).1, ?_⟩, mod _⟩
    rw [a5]
    exact hx
  · refine ⟨_, by simp [Builtin.delete_, run_underlying ht, MapKept.run_getObj_map hb, run_checkKey hk (isKey_int q k), run_findKey hk a1, MapKept.run_setObj_map _ hb, Result.andThen]; rfl, ⟨_, _, (heap_set hb).1, ?_⟩, mod _⟩
    rw [← a5]
    have hlt : j < es.size := by simpa using (List.getElem?_eq_some_iff.1 a2).1
    simp [Array.eraseIdxIfInBounds, hlt]
theorem run_len_mp {t ty kt et : TypeId} {q : IntKind} (ht : P.underlying t = some (.map kt et)) {w : World} {b : Nat} {m : List (Int × Value)} (h : Mp w b q m) :
    (Builtin.len_ #[t] ty #[.map (some b)]).run P w = .ok (.int .i64 m.length) w := by
  obtain ⟨es, c, hb, hx⟩ := h
  have hl : es.size = m.length := by have := congrArg List.length hx; simpa using this
  simp [Builtin.len_, run_underlying ht, MapKept.run_getObj_map hb, Result.andThen, hl, goInt]
/- at an operation -/
theorem exec_lookup_mp {o : Oper} {ev : Operand → Value} {t kt et : TypeId} {q : IntKind} {z : Value} (ht : P.underlying t = some (.map kt et)) (hk : P.underlying kt = some (.int q)) (hz : ∀ w, (zeroValue et).run P w = .ok z w) {x i : Operand} {ok : Bool}
    (ho : o.op = .lookup t x i ok) {b : Nat} {k : Int} (hx : ev x = .map (some b)) (hi : ev i = .int q k) {w : World} {m : List (Int × Value)} (h : Mp w b q m) :
    (execOp ev o).run P w = .ok (.value (if ok then .tuple #[(mget m k).getD z, .bool (mget m k).isSome] else (mget m k).getD z)) w := by
  have := run_lookup_mp ht hk hz h k ok
  simp only [execOp, ho, hx, hi, Sem.run_bind, this, Result.andThen]
  rfl
theorem wp_update_mp {o : Oper} {a : Act} {w : World} {K : Act → World → Prop} {Q : Exit → Act → World → Prop} {t kt et : TypeId} {q : IntKind} (ht : P.underlying t = some (.map kt et)) (hk : P.underlying kt = some (.int q)) {mo ko vo : Operand}
    (ho : o.op = .mapUpdate t mo ko vo) {b : Nat} {k : Int} {v : Value} {m : List (Int × Value)} (hm : a.eval mo = .map (some b)) (hko : a.eval ko = .int q k) (hv : a.eval vo = v) (h : Mp w b q m)
    (hK : ∀ w', Mp w' b q (mput m k v) → Mod (fun x => x = b) w w' → K (a.put o.dst undef) w') : o.wp P a w K Q := by
  obtain ⟨w', hrun, h1, h2⟩ := run_update_mp ht hk h k v
  unfold Oper.wp
  simp [execOp, ho, hm, hko, hv, hrun, Result.andThen]
  exact hK w' h1 h2
theorem wp_delete_mp {o : Oper} {a : Act} {w : World} {K : Act → World → Prop} {Q : Exit → Act → World → Prop} {t kt et u : TypeId} {q : IntKind} (ht : P.underlying t = some (.map kt et)) (hk : P.underlying kt = some (.int q)) {mo ko : Operand}
    (ho : o.op = .call { callee := .builtin .delete, args := #[mo, ko], argTypes := #[t, u] }) {b : Nat} {k : Int} {m : List (Int × Value)} (hm : a.eval mo = .map (some b)) (hko : a.eval ko = .int q k) (h : Mp w b q m)
    (hK : ∀ w', Mp w' b q (mdel m k) → Mod (fun x => x = b) w w' → K (a.put o.dst (.tuple #[])) w') : o.wp P a w K Q := by
  obtain ⟨w', hrun, h1, h2⟩ := run_delete_mp (ty := o.type) (u := u) ht hk h k
  unfold Oper.wp execOp
  simp only [ho, resolve, invoke, builtin, Sem.run_bind, Sem.run_pure, Result.andThen_ok, List.map_toArray, List.map_cons, List.map_nil, hm, hko, hrun]
  exact hK w' h1 h2
theorem exec_len_mp {o : Oper} {ev : Operand → Value} {t kt et : TypeId} {q : IntKind} (ht : P.underlying t = some (.map kt et)) {x : Operand}
    (ho : o.op = .call { callee := .builtin .len, args := #[x], argTypes := #[t] }) {b : Nat} (hx : ev x = .map (some b)) {w : World} {m : List (Int × Value)} (h : Mp w b q m) :
    (execOp ev o).run P w = .ok (.value (.int .i64 m.length)) w := by
  have := run_len_mp (ty := o.type) ht h
  unfold execOp
  simp only [ho, resolve, invoke, builtin, Sem.run_bind, Sem.run_pure, Result.andThen_ok, List.map_toArray, List.map_cons, List.map_nil, hx, this]
end
end Go.Proofs.Ytegjamjognpdkaa
namespace Go.Proofs.Ytegjamjognpdkaa
open Go.RowKit Go.Op Go.MapKept
set_option linter.unusedVariables false
set_option linter.unusedSimpArgs false
theorem run_all_ok {P : Program} {w : World} {α : Type} : ∀ (l : List α) (body : α → PUnit → Sem (ForInStep PUnit)), (∀ a ∈ l, (body a ⟨⟩).run P w = .ok (.yield ⟨⟩) w) → (forIn l (⟨⟩ : PUnit) body).run P w = .ok ⟨⟩ w
  | [], _, _ => by simp
  | a :: l, body, h => by
    rw [List.forIn_cons, Sem.run_bind, h a List.mem_cons_self, Result.andThen_ok]
    exact run_all_ok l body fun b hb => h b (List.mem_cons_of_mem _ hb)
theorem run_checkKey_int {P : Program} {t : TypeId} {k k' : IntKind} (ht : P.underlying t = some (.int k')) (em : Bool) (n : Nat) (x : Int) (w : World) : (Instr.checkKey em (n + 1) t (.int k x)).run P w = .ok () w := by
  simp [Instr.checkKey, run_underlying ht]
theorem run_checkKey_bool {P : Program} {t : TypeId} (ht : P.underlying t = some .bool) (em : Bool) (n : Nat) (x : Bool) (w : World) : (Instr.checkKey em (n + 1) t (.bool x)).run P w = .ok () w := by
  simp [Instr.checkKey, run_underlying ht]
theorem run_checkKey_arr {P : Program} {t e : TypeId} {k k' : IntKind} (xs : List Int) (len : Nat) (ht : P.underlying t = some (.array len e)) (he : P.underlying e = some (.int k')) (hs : ∀ w, (sizeOf e).run P w = .ok 1 w) (hagg : ∀ w, (isAgg e).run P w = .ok false w) (hx : xs.length = len) (em : Bool) (n : Nat) (w : World) :
    (Instr.checkKey em (n + 2) t (.agg (xs.map (Value.int k)).toArray)).run P w = .ok () w := by
  rw [Instr.checkKey]
  simp only [Sem.run_bind, run_underlying ht, Result.andThen_ok, Std.Legacy.Range.forIn_eq_forIn_range', Std.Legacy.Range.size, Nat.sub_zero, Nat.add_sub_cancel, Nat.div_one]
  have := run_all_ok (P := P) (w := w) (List.range' 0 len) (fun i _ => do
      let a ← Instr.checkKey em (n + 1) e (← part e (xs.map (Value.int k)).toArray (i * (← sizeOf e)))
      pure (ForInStep.yield PUnit.unit)) fun i hi => by
    have hi : i < xs.length := by
      simp [List.mem_range'] at hi
      omega
    simp only [Sem.run_bind, hs, Result.andThen_ok, Nat.mul_one, run_part_int hagg xs i hi, run_checkKey_int he, Sem.run_pure]
  first | exact this | simpa using this | (simp only [Sem.run_bind, this]; rfl)
section
variable {P : Program} {t ta tb e : TypeId} {k' : IntKind}
theorem run_checkKey_addr (ht : P.underlying t = some (.struct #[{ name := "V6", type := tb, offset := 0, embedded := false, tag := "", pkgPath := "", byteOffset := 0 }, { name := "B", type := ta, offset := 1, embedded := false, tag := "", pkgPath := "", byteOffset := 1 }]))
    (hta : P.underlying ta = some (.array 16 e)) (htb : P.underlying tb = some .bool) (hte : P.underlying e = some (.int k'))
    (hs : ∀ w, (sizeOf e).run P w = .ok 1 w) (hagg : ∀ w, (isAgg e).run P w = .ok false w) (hsa : ∀ w, (sizeOf ta).run P w = .ok 16 w) (haa : ∀ w, (isAgg ta).run P w = .ok true w) (hab : ∀ w, (isAgg tb).run P w = .ok false w)
    (v : Bool) (xs : List Int) (hx : xs.length = 16) (em : Bool) (d : Nat) (w : World) : (Instr.checkKey em (d + 3) t (.agg (adrC v xs).toArray)).run P w = .ok () w := by
  have p0 : (part tb (adrC v xs).toArray 0).run P w = .ok (.bool v) w := by
    simp [part, Sem.run_bind, hab, Result.andThen, adrC]
  have p1 : (part ta (adrC v xs).toArray 1).run P w = .ok (.agg (xs.map (Value.int .u8)).toArray) w := by
    have := adr_tail v xs hx
    simp only [part, Sem.run_bind, haa, Result.andThen_ok, if_true, hsa, Sem.run_pure, Nat.reduceAdd, this]
  rw [Instr.checkKey]
  simp [run_underlying ht, Sem.run_bind, p0, p1, run_checkKey_bool htb, run_checkKey_arr xs 16 hta hte hs hagg hx, Result.andThen]
end
def spotC (r : TRow) : List Value := .int .i64 r.vlan :: (adrC r.v6 r.b ++ [.int .i64 r.root])
def spotV (r : TRow) : Value := .agg (spotC r).toArray
def sameK (x r : TRow) : Bool := decide (x.vlan = r.vlan ∧ (x.v6 = r.v6 ∧ x.b = r.b) ∧ x.root = r.root)
section
variable {P : Program} {ts t ti : TypeId} {k' : IntKind}
variable (hts : P.underlying ts = some (.struct #[{ name := "vlan", type := ti, offset := 0, embedded := false, tag := "", pkgPath := "acequia/table", byteOffset := 0 }, { name := "group", type := t, offset := 1, embedded := false, tag := "", pkgPath := "acequia/table", byteOffset := 8 }, { name := "root", type := ti, offset := 18, embedded := false, tag := "", pkgPath := "acequia/table", byteOffset := 32 }]))
  (hti : P.underlying ti = some (.int k')) (hai : ∀ w, (isAgg ti).run P w = .ok false w) (hst : ∀ w, (sizeOf t).run P w = .ok 17 w) (hat : ∀ w, (isAgg t).run P w = .ok true w)
include hai hst hat
theorem spot_parts (r : TRow) (hr : r.b.length = 16) (w : World) :
    (part ti (spotC r).toArray 0).run P w = .ok (.int .i64 r.vlan) w ∧ (part t (spotC r).toArray 1).run P w = .ok (.agg (adrC r.v6 r.b).toArray) w ∧ (part ti (spotC r).toArray 18).run P w = .ok (.int .i64 r.root) w := by
  have hl : (adrC r.v6 r.b).length = 17 := by simp [adrC, hr]
  refine ⟨?_, ?_, ?_⟩
  · simp [part, Sem.run_bind, hai, Result.andThen, spotC]
  · have e : Array.extract (spotC r).toArray 1 18 = (adrC r.v6 r.b).toArray := by
      unfold spotC
      simp [List.extract_toArray, List.extract, hl]
      try rw [List.take_left' (by simp [adrC, hr])]
    simp only [part, Sem.run_bind, hat, Result.andThen_ok, if_true, hst, Sem.run_pure, Nat.reduceAdd, e]
  · have e : (spotC r)[18]? = some (.int .i64 r.root) := by
      unfold spotC
      simp [adrC, hr]
    simp [part, Sem.run_bind, hai, Result.andThen, e]
include hts hti
theorem run_checkKey_spotP (r : TRow) (hr : r.b.length = 16) (em : Bool) (d : Nat) (w : World) (hA : (Instr.checkKey em (d + 3) t (.agg (adrC r.v6 r.b).toArray)).run P w = .ok () w) : (Instr.checkKey em (d + 4) ts (spotV r)).run P w = .ok () w := by
  obtain ⟨p0, p1, p2⟩ := spot_parts hai hst hat r hr w
  unfold spotV
  rw [Instr.checkKey]
  simp [run_underlying hts, Sem.run_bind, p0, p1, p2, run_checkKey_int hti, hA, Result.andThen]
theorem eqIn_spotP (x r : TRow) (hx : x.b.length = 16) (hr : r.b.length = 16) (d : Nat) (w : World) (hsd : P.stoodInHeld ts = false)
    (hA : (Op.equalIn (d + 3) t (.agg (adrC x.v6 x.b).toArray) (.agg (adrC r.v6 r.b).toArray)).run P w = .ok (decide (x.v6 = r.v6 ∧ x.b = r.b)) w) :
    (Op.equalIn (d + 4) ts (spotV x) (spotV r)).run P w = .ok (sameK x r) w := by
  obtain ⟨p0, p1, p2⟩ := spot_parts hai hst hat x hx w
  obtain ⟨q0, q1, q2⟩ := spot_parts hai hst hat r hr w
  have hf : P.fieldsOf ts = #[{ name := "vlan", type := ti, offset := 0, embedded := false, tag := "", pkgPath := "acequia/table", byteOffset := 0 }, { name := "group", type := t, offset := 1, embedded := false, tag := "", pkgPath := "acequia/table", byteOffset := 8 }, { name := "root", type := ti, offset := 18, embedded := false, tag := "", pkgPath := "acequia/table", byteOffset := 32 }] := by
    unfold Program.fieldsOf
    rw [hts]
  unfold spotV sameK
  rw [run_equalIn_agg w (d + 3) ts _ _ (by rw [hf]; exact hts) hsd, hf]
  simp only [Op.eqFields, ne_eq, String.reduceEq, not_false_eq_true, if_true, Sem.run_bind, p0, q0, Result.andThen_ok, run_equalIn_int w (d + 2) _ _ _ _ _ hti]
  by_cases h : x.vlan = r.vlan
  · by_cases h' : x.v6 = r.v6 ∧ x.b = r.b
    · rw [decide_eq_true h'] at hA
      rw [show decide (x.vlan = r.vlan ∧ (x.v6 = r.v6 ∧ x.b = r.b) ∧ x.root = r.root) = decide (x.root = r.root) from by simp [h, h']]
      by_cases h3 : x.root = r.root
      · simp [h, p1, q1, p2, q2, hA, h3, run_equalIn_int w (d + 2) _ _ _ _ _ hti]
      · simp [h, p1, q1, p2, q2, hA, h3, run_equalIn_int w (d + 2) _ _ _ _ _ hti]
    · rw [decide_eq_false h'] at hA
      have h2 : ¬ (x.vlan = r.vlan ∧ (x.v6 = r.v6 ∧ x.b = r.b) ∧ x.root = r.root) := fun a => h' a.2.1
      rw [decide_eq_false h2]
      simp [h, p1, q1, p2, q2, hA]
  · simp [h]
end
theorem spot_stood : Try.prog.stoodInHeld 75 = false := by kernel_rfl
theorem run_checkKey_spot (r : TRow) (hr : r.b.length = 16) (em : Bool) (w : World) : (Instr.checkKey em 10000 75 (spotV r)).run Try.prog w = .ok () w :=
  run_checkKey_spotP Try.underlying75 Try.underlying3 Try.isAgg3 Try.sizeOf36 Try.isAgg36 r hr em 9996 w
    (run_checkKey_addr Try.underlying36 Try.underlying34 Try.underlying4 Try.underlying5 Try.sizeOf5 Try.isAgg5 Try.sizeOf34 Try.isAgg34 Try.isAgg4 r.v6 r.b hr em 9996 w)
theorem eq_spot (x r : TRow) (hx : x.b.length = 16) (hr : r.b.length = 16) (w : World) : (Op.equal 75 (spotV x) (spotV r)).run Try.prog w = .ok (sameK x r) w :=
  eqIn_spotP Try.underlying75 Try.underlying3 Try.isAgg3 Try.sizeOf36 Try.isAgg36 x r hx hr 9996 w spot_stood (eqIn_adr w 9996 x.v6 r.v6 x.b r.b hx hr)
/-- a map that tells of each row where it is -/
def entsR : Nat → List TRow → List MapEntry
  | _, [] => []
  | k, r :: l => { key := spotV r, val := .int .i64 (k : Int), born := k } :: entsR (k + 1) l
def placeR (x : TRow) : List TRow → Option Nat
  | [] => none
  | r :: l => if sameK x r = true then some 0 else (placeR x l).map (· + 1)
theorem entsR_len : ∀ (l : List TRow) (k : Nat), (entsR k l).length = l.length
  | [], _ => rfl
  | r :: l, k => by simp [entsR, entsR_len l (k + 1)]
theorem entsR_snoc (r : TRow) : ∀ (l : List TRow) (k : Nat), entsR k (l ++ [r]) = entsR k l ++ [{ key := spotV r, val := .int .i64 ((k + l.length : Nat) : Int), born := k + l.length }]
  | [], k => by simp [entsR]
  | x :: l, k => by
    simp only [List.cons_append, entsR, entsR_snoc r l (k + 1), List.length_cons, List.cons.injEq, true_and]
    rw [show k + 1 + l.length = k + (l.length + 1) by omega]
theorem placeR_lt {x : TRow} : ∀ {l : List TRow} {i : Nat}, placeR x l = some i → i < l.length
  | [], _, h => by simp [placeR] at h
  | r :: l, i, h => by
    unfold placeR at h
    split at h
    · simp at h; subst h; simp
    · cases hp : placeR x l with
      | none => simp [hp] at h
      | some j =>
        have := placeR_lt hp
        simp [hp] at h
        simp
        omega
theorem run_findAsking_spot (x : TRow) (hx : x.b.length = 16) (w : World) : ∀ (l : List TRow) (k n : Nat), (∀ r ∈ l, r.b.length = 16) → (Instr.findAsking 75 (spotV x) (entsR k l) n).run Try.prog w = .ok ((placeR x l).map fun i => (n + i, .int .i64 ((k + i : Nat) : Int))) w
  | [], _, _, _ => by simp [entsR, Instr.findAsking, placeR]
  | r :: l, k, n, h => by
    simp only [entsR, Instr.findAsking, Sem.run_bind, eq_spot x r hx (h r List.mem_cons_self) w, Result.andThen_ok, placeR]
    cases hs : sameK x r with
    | true => simp
    | false =>
      have ih := run_findAsking_spot x hx w l (k + 1) (n + 1) fun y hy => h y (List.mem_cons_of_mem _ hy)
      simp only [Bool.false_eq_true, if_false, ih, Option.map_map, Function.comp_def]
      cases placeR x l with
      | none => rfl
      | some j => simp only [Option.map_some, Result.ok.injEq, Option.some.injEq, Prod.mk.injEq, Value.int.injEq, true_and, and_true]; refine ⟨?_, ?_⟩ <;> omega
theorem run_findKey_spot (x : TRow) (hx : x.b.length = 16) (w : World) (l : List TRow) (h : ∀ r ∈ l, r.b.length = 16) : (Instr.findKey 75 (spotV x) (entsR 0 l)).run Try.prog w = .ok ((placeR x l).map fun i => (i, .int .i64 (i : Int))) w := by
  rw [run_findKey_eq w (by rw [Try.underlying75]), run_findAsking_spot x hx w l 0 0 h]
  simp
/-- block b is that map -/
def SpM (w : World) (b : Nat) (l : List TRow) : Prop := w.heap[b]? = some (.map (entsR 0 l).toArray l.length)
theorem SpM.keep {w w' : World} {F : Nat → Prop} {b : Nat} {l : List TRow} (h : SpM w b l) (hm : Mod F w w') (hn : ¬ F b) : SpM w' b l := hm.keep h hn
theorem SpM.lt {w : World} {b : Nat} {l : List TRow} (h : SpM w b l) : b < w.heap.size := lt_of_block h
theorem exec_lookup_spot {o : Oper} {ev : Operand → Value} {m i : Operand} (ho : o.op = .lookup 68 m i true) {b : Nat} {x : TRow} (hm : ev m = .map (some b)) (hi : ev i = spotV x) (hx : x.b.length = 16) {w : World} {l : List TRow} (hl : ∀ r ∈ l, r.b.length = 16) (h : SpM w b l) :
    (execOp ev o).run Try.prog w = .ok (.value (.tuple #[.int .i64 (((placeR x l).getD 0 : Nat) : Int), .bool (placeR x l).isSome])) w := by
  have hk := run_findKey_spot x hx w l hl
  have hc := run_checkKey_spot x hx
  simp only [execOp, ho, hm, hi, Instr.lookup, Sem.run_bind, run_underlying Try.underlying68, Result.andThen_ok, MapKept.run_getObj_map h, hc, List.toList_toArray, hk, Sem.run_pure]
  cases placeR x l with
  | none => simp [Try.zeroValue3, Result.andThen]
  | some j => simp [Result.andThen]
/-- a new key -/
theorem wp_update_spot {o : Oper} {a : Act} {w : World} {K : Act → World → Prop} {Q : Exit → Act → World → Prop} {mo ko vo : Operand} (ho : o.op = .mapUpdate 68 mo ko vo) {b : Nat} {x : TRow} {l : List TRow} (hm : a.eval mo = .map (some b)) (hko : a.eval ko = spotV x) (hv : a.eval vo = .int .i64 (l.length : Int))
    (hx : x.b.length = 16) (hl : ∀ r ∈ l, r.b.length = 16) (hp : placeR x l = none) (h : SpM w b l)
    (hK : ∀ w', SpM w' b (l ++ [x]) → Mod (fun k => k = b) w w' → K (a.put o.dst undef) w') : o.wp Try.prog a w K Q := by
  have hk := run_findKey_spot x hx w l hl
  rw [hp] at hk
  have hc := run_checkKey_spot x hx
  have hrun : (Instr.mapUpdate 68 (.map (some b)) (spotV x) (.int .i64 (l.length : Int))).run Try.prog w = .ok () { w with heap := w.heap.setIfInBounds b (.map (entsR 0 (l ++ [x])).toArray (l ++ [x]).length) } := by
    simp [Instr.mapUpdate, run_underlying Try.underlying68, MapKept.run_getObj_map h, hc, hk, MapKept.run_setObj_map _ h, Result.andThen, entsR_snoc]
  obtain ⟨w', hw⟩ : ∃ w', w' = { w with heap := w.heap.setIfInBounds b (.map (entsR 0 (l ++ [x])).toArray (l ++ [x]).length) } := ⟨_, rfl⟩
  rw [← hw] at hrun
  unfold Oper.wp
  simp only [execOp, ho, hm, hko, hv, Sem.run_bind, hrun, Result.andThen_ok, Sem.run_pure]
  refine hK w' (by rw [hw]; exact (heap_set h).1) (by rw [hw]; exact ⟨rfl, rfl, rfl, by simp, fun k' _ hk' => (heap_set (o' := .map (entsR 0 (l ++ [x])).toArray (l ++ [x]).length) h).2 k' hk'⟩)
theorem list16 {α : Type} : ∀ (l : List α), l.length = 16 → ∃ a b c d e f g h i j k m n o p q, l = [a, b, c, d, e, f, g, h, i, j, k, m, n, o, p, q]
  | [a, b, c, d, e, f, g, h, i, j, k, m, n, o, p, q], _ => ⟨a, b, c, d, e, f, g, h, i, j, k, m, n, o, p, q, rfl⟩
theorem run_build_spotP {P : Program} {ts t ti : TypeId}
    (hts : P.underlying ts = some (.struct #[{ name := "vlan", type := ti, offset := 0, embedded := false, tag := "", pkgPath := "acequia/table", byteOffset := 0 }, { name := "group", type := t, offset := 1, embedded := false, tag := "", pkgPath := "acequia/table", byteOffset := 8 }, { name := "root", type := ti, offset := 18, embedded := false, tag := "", pkgPath := "acequia/table", byteOffset := 32 }]))
    (hz : ∀ w, (zeroValue ts).run P w = .ok (.agg (spotC ⟨0, false, List.replicate 16 0, 0, []⟩).toArray) w)
    (hsi : ∀ w, (sizeOf ti).run P w = .ok 1 w) (hst : ∀ w, (sizeOf t).run P w = .ok 17 w) (r : TRow) (hr : r.b.length = 16) (w : World) :
    (Instr.build ts #[(0, .int .i64 r.vlan), (1, .agg (adrC r.v6 r.b).toArray), (2, .int .i64 r.root)]).run P w = .ok (spotV r) w := by
  obtain ⟨vlan, v6, b, root, next⟩ := r
  obtain ⟨a, b, c, d, e, f, g, h, i, j, k, m, n, o, p, q, rfl⟩ := list16 b hr
  simp [Instr.build, Sem.run_bind, hz, run_underlying hts, hsi, hst, Instr.fill, Result.andThen, Value.cells, spotV, spotC, adrC]
theorem exec_build_spot {ev : Operand → Value} {op : Oper} {x y z : Operand} (ho : op.op = .build 75 #[(0, x), (1, y), (2, z)]) (r : TRow) (hr : r.b.length = 16) (ex : ev x = .int .i64 r.vlan) (ey : ev y = .agg (adrC r.v6 r.b).toArray) (ez : ev z = .int .i64 r.root) (w : World) :
    (execOp ev op).run Try.prog w = .ok (.value (spotV r)) w := by
  have h := run_build_spotP Try.underlying75 Try.zeroValue75 Try.sizeOf3 Try.sizeOf36 r hr w
  simp [execOp, ho, ex, ey, ez, h, Result.andThen]
end Go.Proofs.Ytegjamjognpdkaa
namespace Go.Proofs.Ytegjamjognpdkaa
open Go.RowKit
set_option linter.unusedVariables false
set_option linter.unusedSimpArgs false
theorem goodT_sorted {rs : List TRow} (h : goodT rs = true) (hok : rowsOk rs) : rs.Pairwise fun a b => cmpT a b = -1 := by
  unfold goodT at h
  rw [Bool.and_eq_true] at h
  have hall : ∀ j, j < rs.length → stepT rs j = true := by
    intro j hj
    have := h.1
    unfold allTo at this
    rw [List.all_eq_true] at this
    exact this j (List.mem_range.2 hj)
  rw [List.pairwise_iff_getElem]
  have step : ∀ j (hj : j + 1 < rs.length), cmpT rs[j] rs[j + 1] = -1 := by
    intro j hj
    have := hall (j + 1) hj
    unfold stepT at this
    rw [Bool.and_eq_true, getD_get rs (j + 1) hj, Nat.add_sub_cancel, getD_get rs j (by omega)] at this
    simpa using this.2
  intro i j hi hj hij
  obtain ⟨d, rfl⟩ : ∃ d, j = i + 1 + d := ⟨j - i - 1, by omega⟩
  clear hij
  induction d with
  | zero => exact step i hj
  | succ d ih =>
    have h1 := ih (by omega)
    have h2 := step (i + 1 + d) hj
    exact cmpT_tr _ _ _ (hok _ (List.getElem_mem _)).1 (hok _ (List.getElem_mem _)).1 (hok _ (List.getElem_mem _)).1 h1 h2
theorem cmpI_self (a : Int) : cmpI a a = 0 := by unfold cmpI; simp
theorem cmpL_self : ∀ l : List Int, cmpL l l = 0
  | [] => rfl
  | a :: l => by simp [cmpL, cmpL_self l]
theorem same_cmp {x r : TRow} (h : sameK x r = true) : cmpT r x = 0 := by
  unfold sameK at h
  obtain ⟨h1, ⟨h2, h3⟩, h4⟩ := of_decide_eq_true h
  unfold cmpT cmpA
  rw [h1, h2, h3, h4, cmpI_self, cmpI_self, if_pos rfl]
  cases r.v6 <;> simp [cmpL_self, or3]
theorem placeR_none {x : TRow} : ∀ {l : List TRow}, (∀ r ∈ l, sameK x r = false) → placeR x l = none
  | [], _ => rfl
  | r :: l, h => by
    unfold placeR
    rw [h r List.mem_cons_self, placeR_none fun y hy => h y (List.mem_cons_of_mem _ hy)]
    rfl
/-- each row is new to the index -/
theorem placeR_new {rs : List TRow} (h : rs.Pairwise fun a b => cmpT a b = -1) {j : Nat} {r : TRow} (hj : rs[j]? = some r) : placeR r (rs.take j) = none := by
  refine placeR_none fun q hq => ?_
  cases hs : sameK r q with
  | false => rfl
  | true =>
    obtain ⟨i, hi, rfl⟩ := List.getElem_of_mem hq
    rw [List.length_take] at hi
    obtain ⟨hjl, rfl⟩ := List.getElem?_eq_some_iff.1 hj
    have h1 := List.pairwise_iff_getElem.1 h i j (by omega) hjl (by omega)
    have h2 := same_cmp hs
    rw [List.getElem_take] at h2
    rw [h2] at h1
    cases h1
theorem RowsOwn.rowAt' {w : World} {f : Nat → Prop} {g n cp j : Nat} {rs : List TRow} {sv : Nat → Value} {r : TRow} (h : RowsOwn w f (.slice (some ⟨g, 0, none⟩) n cp) rs sv) (hj : rs[j]? = some r) : w.rangeAt g (j * 20) (r.c (sv j)) := by
  obtain ⟨ad, cap, e, _, _, h3⟩ := h.row.form
  injection e with e1 e2 e3
  obtain ⟨g', e4, _, _, hc⟩ := h3 (by have := (List.getElem?_eq_some_iff.1 hj).1; omega)
  rw [← e1] at e4
  injection e4 with e5
  injection e5 with e6
  subst e6
  have := rows_get (o := 0) (fun i u hu => by rw [Nat.zero_add]; exact hc i u hu) h.ok hj
  rwa [Nat.zero_add] at this
def verC (rv : Value) (d s : Int) (at' : Value) : List Value := [rv, .int .u32 d, .int .i32 s, .int .u32 0, at']
/-- the filling, j rows behind -/
structure FillJ (rs : List TRow) (rv : Value) (sv : Nat → Value) (d s : Int) (vb p mb : Nat) (w wr : World) (j : Nat) : Prop where
  ver : Blk wr vb 70 (verC rv d s (.map (some mb)))
  box : wr.cell? ⟨p, 0, none⟩ = some (.pointer (some ⟨vb, 0, none⟩))
  map : SpM wr mb (rs.take j)
  mod : Mod (fun k => k = vb) w wr
theorem run_makeMap_spot (w : World) : (Instr.makeMap 68 none).run Try.prog w = .ok (.map (some w.heap.size)) (w.alloc (.map #[] 0)) := by
  simp [Instr.makeMap, run_underlying Try.underlying68, Result.andThen, newObj]
  rfl
theorem rangeFar {w w' : World} {F : Nat → Prop} (hm : Mod F w w') {b o : Nat} {cs : List Value} (h : w.rangeAt b o cs) (hn : ¬ F b) : w'.rangeAt b o cs := fun j v hv => hm.cell hn (h j v hv)
theorem rowC_drop1 (r : TRow) (sv : Value) (hb : r.b.length = 16) : ((r.c sv).drop 1).take 17 = adrC r.v6 r.b := by
  unfold TRow.c rowC
  have hl : (adrC r.v6 r.b).length = 17 := by simp [adrC, hb]
  simp only [List.drop_succ_cons, List.drop_zero]
  exact List.take_left' hl
set_option maxRecDepth 100000 in
set_option maxHeartbeats 4000000 in
theorem fill_any (rs : List TRow) (rv : Value) (sv : Nat → Value) (d s : Int) (at' : Value) (vb p : Nat) (w : World) (f : Nat → Prop) (h : RowsOwn w f rv rs sv) (hn : rs.length ≤ 2048) (hs : rs.Pairwise fun a b => cmpT a b = -1) (hf : ∀ k, f k → k ≠ vb)
    (hv : Blk w vb 70 (verC rv d s at')) (hp : w.cell? ⟨p, 0, none⟩ = some (.pointer (some ⟨vb, 0, none⟩))) (hpv : p ≠ vb) :
    Calls Try.prog 46 #[.pointer (some ⟨p, 0, none⟩)] w fun e w' => e = .returned (.tuple #[]) ∧ ∃ mb, w.heap.size ≤ mb ∧ FillJ rs rv sv d s vb p mb w w' rs.length := by
  have HV := Lib.hid hv
  have HP := Lib.hid hp
  have HPV := Lib.hid hpv
  have HF := Lib.hid hf
  have HS := Lib.hid hs
  have HOK := Lib.hid h.ok
  have HRS := Lib.hid rowSz
  have HVL := Lib.hid hv.lt
  have HPL := Lib.hid (World.block_lt_of_cell? w _ hp)
  obtain ⟨n, hnn⟩ : ∃ n, n = rs.length := ⟨_, rfl⟩
  have hform := h.row.form
  rw [← hnn] at hform hn
  obtain ⟨ad, cp, rfl, hnc, hcm, hg⟩ := hform
  unfold maxLen at hcm
  have HG := Lib.hid hg
  have HH := Lib.hid h
  have HL := Lib.hid hnn
  have hmk := run_makeMap_spot
  have HVa : Hid (Blk (w.alloc (.map #[] 0)) vb 70 (verC (.slice ad n cp) d s at')) := Lib.hid (hv.alloc _)
  have HM1 : Hid ((Try.prog.info? 68).map (·.size) = some 1) := Lib.hid (by kernel_rfl)
  clear hg h hnn hv hs hf hpv
  go_enter Try.func46, Try.ntmps46
  go_wp2_with (refine wpList_store_blk1 rfl _ _ _ rfl vb 4 70 (verC (.slice ad n cp) d s at') (.map (some w.heap.size)) rfl rfl HVa.out (show 4 < 5 by decide) HM1.out rfl ?_; intro w1 HV1 HMD; have cp1 : w1.cell? ⟨p, 0, none⟩ = some (.pointer (some ⟨vb, 0, none⟩)) := HMD.out.cell (show ¬ p = vb from HPV.out) (((Mod.refl (fun _ => False) w).alloc _).cell (fun f => f) HP.out); have cv0 : w1.cell? ⟨vb, 0, none⟩ = some (.slice ad n cp) := HV1.out.cell rfl)
  have HJ0 : Hid (FillJ rs (.slice ad n cp) sv d s vb p w.heap.size w w1 0) := Lib.hid ⟨HV1.out, cp1, by rw [List.take_zero]; exact HMD.out.keep (allocNew w _) (by have := HVL.out; omega), ((Mod.refl _ _).alloc _).trans HMD.out fun x hx => .inl hx⟩
  obtain ⟨mb, hmb⟩ : ∃ mb, mb = w.heap.size := ⟨_, rfl⟩
  rw [← hmb] at HJ0
  try rw [← hmb]
  have HMB : Hid (w.heap.size ≤ mb) := Lib.hid (by omega)
  clear hmb HV1 HMD HVa cp1 cv0 hmk
  go_loopw [12] (fun i wr => ∃ j : Nat, j ≤ n ∧ i = .int .i64 (j : Int) ∧ FillJ rs (.slice ad n cp) sv d s vb p mb w wr j) (fun i _ => n - (intOf i).toNat)
  case atStart => exact ⟨0, Nat.zero_le _, rfl, HJ0.out⟩
  case round =>
    obtain ⟨j, hj, rfl, hJ⟩ := hrel
    have HJ := Lib.hid hJ
    clear hJ
    by_cases hlt : j < n
    · obtain ⟨g, rfl, hgf, hgl, _⟩ := HG.out (by omega)
      obtain ⟨r, hr⟩ : ∃ r, rs[j]? = some r := ⟨_, List.getElem?_eq_getElem (by have := HL.out; omega)⟩
      have HR := Lib.hid hr
      have HRA := Lib.hid (rangeFar HJ.out.mod (HH.out.rowAt' hr) (show ¬ g = vb from HF.out g hgf))
      have HO := Lib.hid (HOK.out r (List.mem_of_getElem? hr))
      have HRZ : Hid ((Try.prog.info? 38).map (·.size) = some (r.c (sv j)).length) := Lib.hid (by rw [TRow.c, rowC_len _ _ _ _ _ HO.out.1]; exact HRS.out)
      have HONE : Hid (∀ u ∈ r.c (sv j), u.oneCell' = true) := Lib.hid (rowC_one _ _ _ _ _ (by obtain ⟨_, _, e, _⟩ := (HH.out.next j r hr).form; rw [e]; rfl))
      have HFIT : Hid (0 + (r.c (sv j)).length ≤ (rowC 0 false z16 0 (.slice none 0 0)).length) := Lib.hid (by rw [TRow.c, rowC_len _ _ _ _ _ HO.out.1, rowC_len _ _ _ _ _ rfl]; decide)
      have HNB := Lib.hid (Blk.new wr 38 (rowC 0 false z16 0 (.slice none 0 0)))
      have HPN := Lib.hid (placeR_new HS.out hr)
      have HTL : Hid ((rs.take j).length = j) := Lib.hid (by rw [List.length_take]; have := HL.out; omega)
      have HTO : Hid (∀ q ∈ rs.take j, q.b.length = 16) := Lib.hid fun q hq => (HOK.out q (List.mem_of_mem_take hq)).1
      have HTS : Hid (rs.take (j + 1) = rs.take j ++ [r]) := Lib.hid (by rw [List.take_add_one, hr]; rfl)
      have HAZ : Hid ((Try.prog.info? 36).map (·.size) = some (adrC r.v6 r.b).length) := Lib.hid (by rw [adrC_len, HO.out.1]; exact adrSz)
      clear hr
      go_wp2_with (first | (refine wpList_load_midG rfl _ _ rfl g (j * 20) rfl (r.c (sv j)) _ HRA.out Try.underlying38 rfl HRZ.out ?_) | (refine wpList_store_blk rfl _ _ _ rfl wr.heap.size 0 38 (rowC 0 false z16 0 (.slice none 0 0)) (r.c (sv j)) rfl rfl HNB.out HFIT.out HRZ.out HONE.out ?_; intro w3 HB3 HM3))
      have HB := Lib.hid (splice_all HB3.out (by rw [TRow.c, rowC_len _ _ _ _ _ HO.out.1, rowC_len _ _ _ _ _ rfl])).drew
      have HMB3 : Hid (Mod (fun _ => False) wr w3.drew) := Lib.hid (((Mod.refl _ _).alloc _).trans HM3.out fun x hx => .inr (by omega)).drew
      obtain ⟨q, hq⟩ : ∃ q, q = wr.heap.size := ⟨_, rfl⟩
      rw [← hq] at HB
      try rw [← hq]
      have hS : w3.drew.cell? ⟨p, 0, none⟩ = some (.pointer (some ⟨vb, 0, none⟩)) ∧ w3.drew.cell? ⟨vb, 4, none⟩ = some (.map (some mb)) ∧ Blk w3.drew q 38 (r.c (sv j)) ∧ w3.drew.cell? ⟨q, 0, none⟩ = some (.int .i64 r.vlan) ∧ w3.drew.cell? ⟨q, 18, none⟩ = some (.int .i64 r.root) :=
        ⟨HMB3.out.cell (fun f => f) HJ.out.box, HMB3.out.cell (fun f => f) (HJ.out.ver.cell rfl), HB.out, HB.out.cell (rowC_0 ..), HB.out.cell (rowC_18 _ _ _ _ _ HO.out.1)⟩
      clear hq HB3 HM3 HNB HFIT HONE HRZ HRA
      refine wp_region_plan [12] [(0, 1), (1, 0), (2, 0), (3, 1), (4, 0), (5, 1), (6, 0), (7, 1), (8, 0), (9, 1), (10, 0), (11, 0), (12, 3)] (fun w' : World => w'.cell? ⟨p, 0, none⟩ = some (.pointer (some ⟨vb, 0, none⟩)) ∧ w'.cell? ⟨vb, 4, none⟩ = some (.map (some mb)) ∧ Blk w' q 38 (r.c (sv j)) ∧ w'.cell? ⟨q, 0, none⟩ = some (.int .i64 r.vlan) ∧ w'.cell? ⟨q, 18, none⟩ = some (.int .i64 r.root)) (by kernel_rfl) (by kernel_rfl) (fun d _ _ _ _ h => by cases d <;> exact h) ?_
      repeat (first | (refine plan_skip rfl rfl ?_; simp only [List.getElem_toArray, List.getElem_cons_succ, List.getElem_cons_zero, Act.put, List.setIfInBounds_toArray, List.set_cons_zero, List.set_cons_succ]) | (refine plan_pass2 rfl rfl ?_; simp only [List.getElem_toArray, List.getElem_cons_succ, List.getElem_cons_zero, Act.put, List.setIfInBounds_toArray, List.set_cons_zero, List.set_cons_succ]) | (refine plan_pass3 rfl rfl ?_; simp only [List.getElem_toArray, List.getElem_cons_succ, List.getElem_cons_zero, Act.put, List.setIfInBounds_toArray, List.set_cons_zero, List.set_cons_succ]) | (refine plan_take (v := ?_) rfl rfl ?_ ?_; rotate_left; (focus (intro w0; go_simp; try with_reducible rfl)); simp only [List.getElem_toArray, List.getElem_cons_succ, List.getElem_cons_zero, Act.put, List.setIfInBounds_toArray, List.set_cons_zero, List.set_cons_succ]) | (refine plan_held (v := ?_) rfl rfl hS ?_ ?_; rotate_left; (focus (intro w0 hSw; (try dsimp only at hSw); go_split_ands; go_simp; try with_reducible rfl)); simp only [List.getElem_toArray, List.getElem_cons_succ, List.getElem_cons_zero, Act.put, List.setIfInBounds_toArray, List.set_cons_zero, List.set_cons_succ])  | (refine plan_skip1 rfl rfl hS ?_; simp only [List.getElem_toArray, List.getElem_cons_succ, List.getElem_cons_zero, Act.put, List.setIfInBounds_toArray, List.set_cons_zero, List.set_cons_succ]))
      (refine plan_held (v := .agg (adrC r.v6 r.b).toArray) rfl rfl hS (fun w0 h0 => exec_load_blk _ _ rfl q 1 rfl 38 (r.c (sv j)) (adrC r.v6 r.b) _ w0 h0.2.2.1 (by rw [adrC_len, HO.out.1]; exact rowC_drop1 r _ HO.out.1) Try.underlying36 rfl HAZ.out) ?_; try simp only [List.getElem_toArray, List.getElem_cons_succ, List.getElem_cons_zero, Act.put, List.setIfInBounds_toArray, List.set_cons_zero, List.set_cons_succ])
      repeat (first | (refine plan_skip rfl rfl ?_; simp only [List.getElem_toArray, List.getElem_cons_succ, List.getElem_cons_zero, Act.put, List.setIfInBounds_toArray, List.set_cons_zero, List.set_cons_succ]) | (refine plan_pass2 rfl rfl ?_; simp only [List.getElem_toArray, List.getElem_cons_succ, List.getElem_cons_zero, Act.put, List.setIfInBounds_toArray, List.set_cons_zero, List.set_cons_succ]) | (refine plan_pass3 rfl rfl ?_; simp only [List.getElem_toArray, List.getElem_cons_succ, List.getElem_cons_zero, Act.put, List.setIfInBounds_toArray, List.set_cons_zero, List.set_cons_succ]) | (refine plan_take (v := ?_) rfl rfl ?_ ?_; rotate_left; (focus (intro w0; go_simp; try with_reducible rfl)); simp only [List.getElem_toArray, List.getElem_cons_succ, List.getElem_cons_zero, Act.put, List.setIfInBounds_toArray, List.set_cons_zero, List.set_cons_succ]) | (refine plan_held (v := ?_) rfl rfl hS ?_ ?_; rotate_left; (focus (intro w0 hSw; (try dsimp only at hSw); go_split_ands; go_simp; try with_reducible rfl)); simp only [List.getElem_toArray, List.getElem_cons_succ, List.getElem_cons_zero, Act.put, List.setIfInBounds_toArray, List.set_cons_zero, List.set_cons_succ])  | (refine plan_skip1 rfl rfl hS ?_; simp only [List.getElem_toArray, List.getElem_cons_succ, List.getElem_cons_zero, Act.put, List.setIfInBounds_toArray, List.set_cons_zero, List.set_cons_succ]))
      refine plan_take (v := spotV r) rfl rfl (fun w0 => exec_build_spot rfl r HO.out.1 rfl rfl rfl w0) ?_
      try simp only [List.getElem_toArray, List.getElem_cons_succ, List.getElem_cons_zero, Act.put, List.setIfInBounds_toArray, List.set_cons_zero, List.set_cons_succ]
      repeat (first | (refine plan_skip rfl rfl ?_; simp only [List.getElem_toArray, List.getElem_cons_succ, List.getElem_cons_zero, Act.put, List.setIfInBounds_toArray, List.set_cons_zero, List.set_cons_succ]) | (refine plan_pass2 rfl rfl ?_; simp only [List.getElem_toArray, List.getElem_cons_succ, List.getElem_cons_zero, Act.put, List.setIfInBounds_toArray, List.set_cons_zero, List.set_cons_succ]) | (refine plan_pass3 rfl rfl ?_; simp only [List.getElem_toArray, List.getElem_cons_succ, List.getElem_cons_zero, Act.put, List.setIfInBounds_toArray, List.set_cons_zero, List.set_cons_succ]) | (refine plan_take (v := ?_) rfl rfl ?_ ?_; rotate_left; (focus (intro w0; go_simp; try with_reducible rfl)); simp only [List.getElem_toArray, List.getElem_cons_succ, List.getElem_cons_zero, Act.put, List.setIfInBounds_toArray, List.set_cons_zero, List.set_cons_succ]) | (refine plan_held (v := ?_) rfl rfl hS ?_ ?_; rotate_left; (focus (intro w0 hSw; (try dsimp only at hSw); go_split_ands; go_simp; try with_reducible rfl)); simp only [List.getElem_toArray, List.getElem_cons_succ, List.getElem_cons_zero, Act.put, List.setIfInBounds_toArray, List.set_cons_zero, List.set_cons_succ])  | (refine plan_skip1 rfl rfl hS ?_; simp only [List.getElem_toArray, List.getElem_cons_succ, List.getElem_cons_zero, Act.put, List.setIfInBounds_toArray, List.set_cons_zero, List.set_cons_succ]))
      (refine plan_end rfl rfl rfl fun K hK => ?_; (try simp only [List.getElem_toArray, List.getElem_cons_succ, List.getElem_cons_zero]))
      refine wp_update_spot rfl (b := mb) (x := r) (l := rs.take j) rfl rfl (by rw [HTL.out]; rfl) HO.out.1 HTO.out HPN.out (show SpM w3.drew mb (rs.take j) from HJ.out.map.keep HMB3.out fun f => f) ?_
      intro w5 HM5 hm5
      have HJ5 : Hid (FillJ rs (.slice (some ⟨g, 0, none⟩) n cp) sv d s vb p mb w w5 (j + 1)) := Lib.hid ⟨(HJ.out.ver.keep HMB3.out fun f => f).keep hm5 (by have := HVL.out; have := HMB.out; show ¬ vb = mb; omega), hm5.cell (by have := HPL.out; have := HMB.out; show ¬ p = mb; omega) (HMB3.out.cell (fun f => f) HJ.out.box), by rw [HTS.out]; exact HM5, (HJ.out.mod.trans HMB3.out fun _ f => f.elim).trans hm5 fun x hx => .inr (by have := HMB.out; have e : x = mb := hx; omega)⟩
      refine hK _ _ ?_
      clear hK K hm5 HM5 hS HB
      try simp only [List.getElem_toArray, List.getElem_cons_succ, List.getElem_cons_zero, Act.put, List.setIfInBounds_toArray, List.set_cons_zero, List.set_cons_succ]
      repeat (first | (refine plan_skip rfl rfl ?_; simp only [List.getElem_toArray, List.getElem_cons_succ, List.getElem_cons_zero, Act.put, List.setIfInBounds_toArray, List.set_cons_zero, List.set_cons_succ]) | (refine plan_pass2 rfl rfl ?_; simp only [List.getElem_toArray, List.getElem_cons_succ, List.getElem_cons_zero, Act.put, List.setIfInBounds_toArray, List.set_cons_zero, List.set_cons_succ]) | (refine plan_pass3 rfl rfl ?_; simp only [List.getElem_toArray, List.getElem_cons_succ, List.getElem_cons_zero, Act.put, List.setIfInBounds_toArray, List.set_cons_zero, List.set_cons_succ]) | (refine plan_take (v := ?_) rfl rfl ?_ ?_; rotate_left; (focus (intro w0; go_simp; try with_reducible rfl)); simp only [List.getElem_toArray, List.getElem_cons_succ, List.getElem_cons_zero, Act.put, List.setIfInBounds_toArray, List.set_cons_zero, List.set_cons_succ]) | fail )
      refine plan_nil ?_
      go_wp2
      go_roundw
      case rel => exact ⟨j + 1, by omega, by go_num, HJ5.out⟩
      case measure => simp [intOf]; omega
    · obtain rfl : j = n := by omega
      go_wp2
      go_end0
      exact ⟨rfl, mb, HMB.out, by rw [← HL.out]; exact HJ.out⟩
end Go.Proofs.Ytegjamjognpdkaa
