/- clock.due, Pop, Next where there is nothing: contracts. -/
import Derived.Test.YtcccdlmngddalaaGreatReg
import Derived.MapKept
import Derived.Maps.OwnOps
import Derived.Sort.EncStr
import Derived.Sort.KeysCollected
import Derived.Maps.RangeWalk
import Derived.Test.YtcccdlmngddalaaGreatGrB
import Derived.Test.YtcccdlmngddalaaGreatGrA
import Derived.Test.YtcccdlmngddalaaGreatRegT
import Derived.Test.YtcccdlmngddalaaGreatGrX
import Derived.Handy
import Derived.Maps.Ext
import Derived.Laws.IdiomRangeMap
import Derived.Deep.LoopGhost
set_option linter.unusedVariables false
set_option linter.unusedSimpArgs false
namespace Go.Proofs.YtcccdlmngddalaaGreat
open Go.RowKit Go.MapKept
def mgetS (m : List (List UInt8 × Value)) (k : List UInt8) : Option Value := (m.find? fun p => p.1 == k).map (·.2)
def mputS : List (List UInt8 × Value) → List UInt8 → Value → List (List UInt8 × Value)
  | [], k, v => [(k, v)]
  | (k', v') :: r, k, v => if k' = k then (k, v) :: r else (k', v') :: mputS r k v
def mdelS : List (List UInt8 × Value) → List UInt8 → List (List UInt8 × Value)
  | [], _ => []
  | (k', v') :: r, k => if k' = k then r else (k', v') :: mdelS r k
def Ms (w : World) (b : Nat) (m : List (List UInt8 × Value)) : Prop :=
  ∃ es clock, w.heap[b]? = some (.map es clock) ∧ es.toList.map (fun e => (e.key, e.val)) = m.map (fun p => (encStr p.1, p.2)) ∧ MapKept.Stamped es clock
theorem Ms.made (w : World) : Ms (w.alloc (.map #[] 0)) w.heap.size [] := ⟨#[], 0, allocNew w _, rfl, MapKept.stamped_empty 0⟩
theorem Ms.lt {w : World} {b : Nat} {m : List (List UInt8 × Value)} (h : Ms w b m) : b < w.heap.size := by
  obtain ⟨es, c, hb, _⟩ := h; exact lt_of_block hb
theorem Ms.keep {w w' : World} {F : Nat → Prop} {b : Nat} {m : List (List UInt8 × Value)} (h : Ms w b m) (hm : Mod F w w') (hn : ¬ F b) : Ms w' b m := by
  obtain ⟨es, c, hb, hx⟩ := h; exact ⟨es, c, hm.keep hb hn, hx⟩
theorem Ms.alloc {w : World} {b : Nat} {m : List (List UInt8 × Value)} (h : Ms w b m) (o : Obj) : Ms (w.alloc o) b m := h.keep ((Mod.refl (fun _ => False) _).alloc o) (fun f => f)
theorem Ms.ne {w : World} {b : Nat} {m : List (List UInt8 × Value)} (h : Ms w b m) {p : Nat} {cs : Array Value} {t : TypeId} {z : Nat × Nat} (hp : w.heap[p]? = some (.cells cs t z)) : b ≠ p := by
  rintro rfl
  obtain ⟨es, c, hb, _⟩ := h
  rw [hb] at hp; cases hp
theorem mget_noS {m : List (List UInt8 × Value)} {k : List UInt8} (h : mgetS m k = none) : ∀ p ∈ m, k ≠ p.1 := fun p hp e => by
  unfold mgetS at h
  rw [Option.map_eq_none_iff, List.find?_eq_none] at h
  exact h p hp (by simp [e])
section
variable {P : Program}
theorem isKey_str (k : List UInt8) : IsKey .string (encStr k) := trivial
theorem findNow_str (k : List UInt8) : ∀ (es : List MapEntry) (m : List (List UInt8 × Value)) (i : Nat), es.map (fun e => (e.key, e.val)) = m.map (fun p => (encStr p.1, p.2)) →
    (mgetS m k = none ∧ mputS m k = (fun v => m ++ [(k, v)]) ∧ mdelS m k = m ∧ Instr.findNow .string (encStr k) es i = some none) ∨
    ∃ j e, Instr.findNow .string (encStr k) es i = some (some (i + j, e.val)) ∧ es[j]? = some e ∧ e.key = encStr k ∧ mgetS m k = some e.val ∧
      (∀ v, (es.set j { e with val := v }).map (fun e => (e.key, e.val)) = (mputS m k v).map (fun p => (encStr p.1, p.2))) ∧
      (es.eraseIdx j).map (fun e => (e.key, e.val)) = (mdelS m k).map (fun p => (encStr p.1, p.2))
  | [], m, i, h => by
    have : m = [] := by simpa using h
    subst this
    exact .inl ⟨rfl, by funext v; rfl, rfl, rfl⟩
  | e :: es, m, i, h => by
    match m, h with
    | [], h => simp at h
    | (k', v') :: r, h =>
      simp only [List.map_cons, List.cons.injEq, Prod.mk.injEq] at h
      obtain ⟨⟨h1, h2⟩, h3⟩ := h
      by_cases hk : k' = k
      · subst hk
        refine .inr ⟨0, e, ?_, rfl, h1, ?_, fun v => ?_, ?_⟩
        · obtain ⟨r0, hr, hiff⟩ := sameNow_of_keys (isKey_str k') (isKey_str k')
          obtain rfl : r0 = true := hiff.2 rfl
          simp [Instr.findNow, h1, hr]
        · simp [mgetS, h2]
        · simp [mputS, h1, h3]
        · simp [mdelS, h3]
      · have hk' : ¬ k = k' := fun e => hk e.symm
        have hs : Instr.findNow .string (encStr k) (e :: es) i = Instr.findNow .string (encStr k) es (i + 1) := by
          obtain ⟨r0, hr, hiff⟩ := sameNow_of_keys (isKey_str k) (isKey_str k')
          have hb : r0 = false := by
            cases r0 with
            | false => rfl
            | true => exact absurd (encStr_inj (hiff.1 rfl)) hk'
          subst hb
          simp [Instr.findNow, h1, hr]
        rcases findNow_str k es r (i + 1) h3 with ⟨a1, a2, a3, a4⟩ | ⟨j, e0, a1, a2, a3, a4, a5, a6⟩
        · refine .inl ⟨?_, ?_, ?_, by rw [hs, a4]⟩
          · simpa [mgetS, hk] using a1
          · funext v; simp [mputS, hk, a2]
          · simp [mdelS, hk, a3]
        · refine .inr ⟨j + 1, e0, by rw [hs, a1]; simp; omega, by simpa using a2, a3, ?_, fun v => ?_, ?_⟩
          · simpa [mgetS, hk] using a4
          · simpa [mputS, hk, h1, h2] using a5 v
          · simpa [mdelS, hk, h1, h2] using a6
theorem run_lookup_ms {t kt et : TypeId} {z : Value} (ht : P.underlying t = some (.map kt et)) (hk : P.underlying kt = some .string) (hz : ∀ w, (zeroValue et).run P w = .ok z w) {w : World} {b : Nat} {m : List (List UInt8 × Value)} (h : Ms w b m) (k : List UInt8) (ok : Bool) :
    (Instr.lookup t (.map (some b)) (encStr k) ok).run P w = .ok (if ok then .tuple #[(mgetS m k).getD z, .bool (mgetS m k).isSome] else (mgetS m k).getD z) w := by
  obtain ⟨es, c, hb, hx, hst⟩ := h
  rcases findNow_str k es.toList m 0 hx with ⟨a1, _, _, a4⟩ | ⟨j, e, a1, a2, a3, a4, _, _⟩
  · simp [Instr.lookup, run_underlying ht, MapKept.run_getObj_map hb, run_checkKey hk (isKey_str k), run_findKey hk a4, hz, a1, Result.andThen]
  · simp [Instr.lookup, run_underlying ht, MapKept.run_getObj_map hb, run_checkKey hk (isKey_str k), run_findKey hk a1, a4, Result.andThen]
theorem run_update_ms {t kt et : TypeId} (ht : P.underlying t = some (.map kt et)) (hk : P.underlying kt = some .string) {w : World} {b : Nat} {m : List (List UInt8 × Value)} (h : Ms w b m) (k : List UInt8) (v : Value) :
    ∃ w', (Instr.mapUpdate t (.map (some b)) (encStr k) v).run P w = .ok () w' ∧ Ms w' b (mputS m k v) ∧ Mod (fun x => x = b) w w' := by
  obtain ⟨es, c, hb, hx, hst⟩ := h
  have mod : ∀ o, Mod (fun x => x = b) w { w with heap := w.heap.setIfInBounds b o } := fun o => ⟨rfl, rfl, rfl, by simp, fun k' _ hk' => (heap_set (o' := o) hb).2 k' hk'⟩
  rcases findNow_str k es.toList m 0 hx with ⟨a1, a2, _, a4⟩ | ⟨j, e, a1, a2, a3, a4, a5, _⟩
  · refine ⟨_, by simp [Instr.mapUpdate, run_underlying ht, MapKept.run_getObj_map hb, run_checkKey hk (isKey_str k), run_findKey hk a4, MapKept.run_setObj_map _ hb, Result.andThen] <;> rfl, ⟨_, _, (heap_set hb).1, ?_, MapKept.stamped_push hst fun x hx' e => ?_⟩, mod _⟩
    · rw [a2]
      simp [hx]
    · have hm : (x.key, x.val) ∈ m.map fun p => (encStr p.1, p.2) := by rw [← hx]; exact List.mem_map_of_mem hx'
      obtain ⟨p, hp, hpe⟩ := List.mem_map.1 hm
      injection hpe with e1 e2
      rw [e] at e1
      exact mget_noS a1 p hp (encStr_inj e1).symm
  · have hj : es[j]? = some e := by simpa using a2
    refine ⟨_, by simp [Instr.mapUpdate, run_underlying ht, MapKept.run_getObj_map hb, run_checkKey hk (isKey_str k), run_findKey hk a1, hj, a3, run_keyThatStays (isKey_str k), MapKept.run_setObj_map _ hb, Result.andThen] <;> rfl, ⟨_, _, (heap_set hb).1, ?_, MapKept.stamped_modify hst j (fun e => { e with key := encStr k, val := v }) (fun _ _ => rfl) (fun e' _ he' => by rw [hj] at he'; cases he'; exact a3.symm)⟩, mod _⟩
    rw [← a5 v]
    have : (es.modify j fun e => { e with key := encStr k, val := v }).toList = es.toList.set j { e with val := v } := by
      apply List.ext_getElem?
      intro i
      rw [List.getElem?_set]
      simp only [Array.getElem?_toList, Array.getElem?_modify]
      by_cases hij : j = i
      · subst hij
        have hlt : j < es.toList.length := by simpa using (Array.getElem?_eq_some_iff.1 hj).1
        rw [if_pos rfl, if_pos rfl, if_pos hlt, hj]
        simp [← a3]
      · rw [if_neg hij, if_neg hij]
    rw [this]
theorem run_delete_ms {t kt et ty u : TypeId} (ht : P.underlying t = some (.map kt et)) (hk : P.underlying kt = some .string) {w : World} {b : Nat} {m : List (List UInt8 × Value)} (h : Ms w b m) (k : List UInt8) :
    ∃ w', (Builtin.delete_ #[t, u] ty #[.map (some b), encStr k]).run P w = .ok (.tuple #[]) w' ∧ Ms w' b (mdelS m k) ∧ Mod (fun x => x = b) w w' := by
  obtain ⟨es, c, hb, hx, hst⟩ := h
  have mod : ∀ o, Mod (fun x => x = b) w { w with heap := w.heap.setIfInBounds b o } := fun o => ⟨rfl, rfl, rfl, by simp, fun k' _ hk' => (heap_set (o' := o) hb).2 k' hk'⟩
  rcases findNow_str k es.toList m 0 hx with ⟨a1, a2, a5, a4⟩ | ⟨j, e, a1, a2, a3, a4, _, a5⟩
  · refine ⟨_, by simp [Builtin.delete_, run_underlying ht, MapKept.run_getObj_map hb, run_checkKey hk (isKey_str k), run_findKey hk a4, MapKept.run_setObj_map _ hb, Result.andThen] <;> rfl, ⟨_, _, (heap_set hb).1, ?_, hst⟩, mod _⟩
    rw [a5]
    exact hx
  · refine ⟨_, by simp [Builtin.delete_, run_underlying ht, MapKept.run_getObj_map hb, run_checkKey hk (isKey_str k), run_findKey hk a1, MapKept.run_setObj_map _ hb, Result.andThen] <;> rfl, ⟨_, _, (heap_set hb).1, ?_, MapKept.stamped_erase hst j⟩, mod _⟩
    rw [← a5]
    have hlt : j < es.size := by simpa using (List.getElem?_eq_some_iff.1 a2).1
    simp [Array.eraseIdxIfInBounds, hlt]
/- at an operation -/
theorem exec_lookup_ms {o : Oper} {ev : Operand → Value} {t kt et : TypeId} {z : Value} (ht : P.underlying t = some (.map kt et)) (hk : P.underlying kt = some .string) (hz : ∀ w, (zeroValue et).run P w = .ok z w) {x i : Operand} {ok : Bool}
    (ho : o.op = .lookup t x i ok) {b : Nat} {k : List UInt8} (hx : ev x = .map (some b)) (hi : ev i = encStr k) {w : World} {m : List (List UInt8 × Value)} (h : Ms w b m) :
    (execOp ev o).run P w = .ok (.value (if ok then .tuple #[(mgetS m k).getD z, .bool (mgetS m k).isSome] else (mgetS m k).getD z)) w := by
  have := run_lookup_ms ht hk hz h k ok
  simp only [execOp, ho, hx, hi, Sem.run_bind, this, Result.andThen]
  rfl
theorem wp_update_ms {o : Oper} {a : Act} {w : World} {K : Act → World → Prop} {Q : Exit → Act → World → Prop} {t kt et : TypeId} (ht : P.underlying t = some (.map kt et)) (hk : P.underlying kt = some .string) {mo ko vo : Operand}
    (ho : o.op = .mapUpdate t mo ko vo) {b : Nat} {k : List UInt8} {v : Value} {m : List (List UInt8 × Value)} (hm : a.eval mo = .map (some b)) (hko : a.eval ko = encStr k) (hv : a.eval vo = v) (h : Ms w b m)
    (hK : ∀ w', Ms w' b (mputS m k v) → Mod (fun x => x = b) w w' → K (a.put o.dst undef) w') : o.wp P a w K Q := by
  obtain ⟨w', hrun, h1, h2⟩ := run_update_ms ht hk h k v
  unfold Oper.wp
  simp [execOp, ho, hm, hko, hv, hrun, Result.andThen]
  exact hK w' h1 h2
theorem wp_delete_ms {o : Oper} {a : Act} {w : World} {K : Act → World → Prop} {Q : Exit → Act → World → Prop} {t kt et u : TypeId} (ht : P.underlying t = some (.map kt et)) (hk : P.underlying kt = some .string) {mo ko : Operand}
    (ho : o.op = .call { callee := .builtin .delete, args := #[mo, ko], argTypes := #[t, u] }) {b : Nat} {k : List UInt8} {m : List (List UInt8 × Value)} (hm : a.eval mo = .map (some b)) (hko : a.eval ko = encStr k) (h : Ms w b m)
    (hK : ∀ w', Ms w' b (mdelS m k) → Mod (fun x => x = b) w w' → K (a.put o.dst (.tuple #[])) w') : o.wp P a w K Q := by
  obtain ⟨w', hrun, h1, h2⟩ := run_delete_ms (ty := o.type) (u := u) ht hk h k
  unfold Oper.wp execOp
  simp only [ho, resolve, invoke, builtin, Sem.run_bind, Sem.run_pure, Result.andThen_ok, List.map_toArray, List.map_cons, List.map_nil, hm, hko, hrun]
  exact hK w' h1 h2
end
section
variable {H : Type}
open Go.Maps Go.WideShapes
def Ri (v : Value) : Option (DataW H × List MemPlace) :=
  match v with
  | .int .i64 t => some (.lit (.int .i64 t), [])
  | _ => none
theorem Ri_int {v : Value} {y : DataW H × List MemPlace} (h : Ri v = some y) : ∃ t : Int, v = .int .i64 t ∧ y = (.lit (.int .i64 t), []) := by
  unfold Ri at h
  split at h
  · cases h; exact ⟨_, rfl, rfl⟩
  · cases h
def enS (p : List UInt8 × Value) : Lit × DataW H := (.string p.1, ((Ri p.2).map (·.1)).getD .nil)
def IntV (v : Value) : Prop := ∃ t : Int, v = .int .i64 t
theorem keyOf_mkS {P : Program} {kt : TypeId} (hk : P.underlying kt = some .string) {x : List UInt8} (hw : x.length ≤ maxLen) : keyOf P kt (encStr x) = some (.string x) := by
  have : (⟨x.toArray⟩ : ByteArray).size ≤ maxLen := by simpa [ByteArray.size] using hw
  simp [encStr, keyOf, hk, mapKey, this]
theorem Ms.owns {P : Program} {kt : TypeId} (hk : P.underlying kt = some .string) {w : World} {b : Nat} {m : List (List UInt8 × Value)} (h : Ms w b m) (hw : ∀ p ∈ m, p.1.length ≤ maxLen) (hv : ∀ p ∈ m, IntV p.2) (hl : m.length ≤ maxLen) :
    ∃ l : List (Lit × DataW H), w.ownsMap P kt Ri b m.length (.map l) ∧ l.Perm (m.map enS) := by
  obtain ⟨es, c, hb, hx, hst⟩ := h
  have hsz : es.size = m.length := by have := congrArg List.length hx; simpa using this
  have rdx : ∀ x ∈ es.toList, ∃ p ∈ m, x.key = encStr p.1 ∧ x.val = p.2 := fun x hx' => by
    have hm : (x.key, x.val) ∈ m.map fun p => (encStr p.1, p.2) := by rw [← hx]; exact List.mem_map_of_mem hx'
    obtain ⟨p, hp, hpe⟩ := List.mem_map.1 hm
    injection hpe with e1 e2
    exact ⟨p, hp, e1.symm, e2.symm⟩
  have rd : ∀ x ∈ es.toList, ∃ p ∈ m, x.key = encStr p.1 ∧ x.val = p.2 ∧ WideElems.rd P kt (Ri (H := H)) x = some (enS p) := fun x hx' => by
    obtain ⟨p, hp, e1, e2⟩ := rdx x hx'
    obtain ⟨g, eg⟩ := hv p hp
    refine ⟨p, hp, e1, e2, ?_⟩
    unfold WideElems.rd
    rw [e1, keyOf_mkS hk (hw p hp), e2, eg]
    simp [enS, eg, Ri]
  refine ⟨_, ⟨es, c, hb, ⟨by omega, hst, fun x hx' => ?_⟩, by omega, rfl⟩, ?_⟩
  · obtain ⟨p, _, _, _, h⟩ := rd x hx'
    exact ⟨_, h⟩
  · refine (sorted_perm _).trans ?_
    have : es.toList.map (WideElems.rg P kt (Ri (H := H))) = m.map enS := by
      apply List.ext_getElem
      · simp; exact hsz
      · intro i h1 h2
        simp only [List.getElem_map]
        have hi : i < es.toList.length := by simpa using h1
        have hi2 : i < m.length := by simpa using h2
        have he := congrArg (fun l => l[i]?) hx
        simp only [List.getElem?_map, List.getElem?_eq_getElem hi, List.getElem?_eq_getElem hi2, Option.map_some, Option.some.injEq, Prod.mk.injEq] at he
        obtain ⟨g, eg⟩ := hv m[i] (List.getElem_mem _)
        unfold WideElems.rg WideElems.rd
        rw [he.1, keyOf_mkS hk (hw _ (List.getElem_mem _)), he.2, eg]
        simp [enS, eg, Ri]
    rw [this]
end
end Go.Proofs.YtcccdlmngddalaaGreat
namespace Go.Proofs.YtcccdlmngddalaaGreat
open Go.RowKit Go.Sort
def Ad.kk (a : Ad) : List UInt8 := a.kb.map fun n => UInt8.ofNat n.toNat
theorem key_enc (a : Ad) : Value.string a.key = encStr a.kk := rfl
theorem kk_inj {a b : Ad} (ha : a.good = true) (hb : b.good = true) (h : a.kk = b.kk) : a = b := Ad.key_inj ha hb (by
  have : encStr a.kk = encStr b.kk := by rw [h]
  rw [← key_enc, ← key_enc] at this
  injection this)
def aget (L : List (Ad × Int)) (a : Ad) : Option Int := (L.find? fun p => decide (p.1 = a)).map (·.2)
def aput : List (Ad × Int) → Ad → Int → List (Ad × Int)
  | [], a, t => [(a, t)]
  | (b, u) :: r, a, t => if b = a then (a, t) :: r else (b, u) :: aput r a t
def adel : List (Ad × Int) → Ad → List (Ad × Int)
  | [], _ => []
  | (b, u) :: r, a => if b = a then r else (b, u) :: adel r a
def enm (L : List (Ad × Int)) : List (List UInt8 × Value) := L.map fun p => (p.1.kk, .int .i64 p.2)
def GdL (L : List (Ad × Int)) : Prop := ∀ p ∈ L, p.1.good = true
theorem GdL.tail {p : Ad × Int} {L : List (Ad × Int)} (h : GdL (p :: L)) : GdL L := fun q hq => h q (List.mem_cons_of_mem _ hq)
theorem mget_enm {a : Ad} (ha : a.good = true) : ∀ {L : List (Ad × Int)}, GdL L → mgetS (enm L) a.kk = (aget L a).map (.int .i64)
  | [], _ => rfl
  | (b, u) :: L, h => by
    have ih := mget_enm ha h.tail
    unfold mgetS aget enm at *
    by_cases hb : b = a
    · subst hb; simp
    · have hk : ¬ b.kk = a.kk := fun e => hb (kk_inj (h (b, u) List.mem_cons_self) ha e)
      simpa [hb, hk] using ih
theorem mput_enm {a : Ad} (ha : a.good = true) (t : Int) : ∀ {L : List (Ad × Int)}, GdL L → mputS (enm L) a.kk (.int .i64 t) = enm (aput L a t)
  | [], _ => rfl
  | (b, u) :: L, h => by
    have ih := mput_enm ha t h.tail
    unfold enm at *
    by_cases hb : b = a
    · subst hb; simp [mputS, aput]
    · have hk : ¬ b.kk = a.kk := fun e => hb (kk_inj (h (b, u) List.mem_cons_self) ha e)
      simpa [mputS, aput, hb, hk] using ih
theorem mdel_enm {a : Ad} (ha : a.good = true) : ∀ {L : List (Ad × Int)}, GdL L → mdelS (enm L) a.kk = enm (adel L a)
  | [], _ => rfl
  | (b, u) :: L, h => by
    have ih := mdel_enm ha h.tail
    unfold enm at *
    by_cases hb : b = a
    · subst hb; simp [mdelS, adel]
    · have hk : ¬ b.kk = a.kk := fun e => hb (kk_inj (h (b, u) List.mem_cons_self) ha e)
      simpa [mdelS, adel, hb, hk] using ih
theorem mem_aput {a : Ad} {t : Int} {p : Ad × Int} : ∀ {L : List (Ad × Int)}, p ∈ aput L a t → p = (a, t) ∨ (p ∈ L ∧ p.1 ≠ a) ∨ p ∈ L
  | [], h => by simp [aput] at h; exact .inl h
  | (b, u) :: L, h => by
    unfold aput at h
    split at h
    · rcases List.mem_cons.1 h with rfl | h
      · exact .inl rfl
      · exact .inr (.inr (List.mem_cons_of_mem _ h))
    · rcases List.mem_cons.1 h with rfl | h
      · exact .inr (.inr List.mem_cons_self)
      · rcases mem_aput h with h | h | h
        · exact .inl h
        · exact .inr (.inr (List.mem_cons_of_mem _ h.1))
        · exact .inr (.inr (List.mem_cons_of_mem _ h))
theorem mem_adel {a : Ad} {p : Ad × Int} : ∀ {L : List (Ad × Int)}, p ∈ adel L a → p ∈ L
  | [], h => h
  | (b, u) :: L, h => by
    unfold adel at h
    split at h
    · exact List.mem_cons_of_mem _ h
    · rcases List.mem_cons.1 h with rfl | h
      · exact List.mem_cons_self
      · exact List.mem_cons_of_mem _ (mem_adel h)
def NdL (L : List (Ad × Int)) : Prop := (L.map (·.1)).Nodup
theorem ndl_cons {p : Ad × Int} {L : List (Ad × Int)} : NdL (p :: L) ↔ p.1 ∉ L.map (·.1) ∧ NdL L := by unfold NdL; rw [List.map_cons, List.nodup_cons]
theorem fst_aput {a : Ad} {t : Int} {b : Ad} : ∀ {L : List (Ad × Int)}, b ∈ (aput L a t).map (·.1) → b = a ∨ b ∈ L.map (·.1) := fun {L} h => by
  obtain ⟨p, hp, rfl⟩ := List.mem_map.1 h
  rcases mem_aput hp with rfl | h | h
  · exact .inl rfl
  · exact .inr (List.mem_map_of_mem h.1)
  · exact .inr (List.mem_map_of_mem h)
theorem aput_nd (a : Ad) (t : Int) : ∀ {L : List (Ad × Int)}, NdL L → NdL (aput L a t)
  | [], _ => by simp [aput, NdL]
  | (b, u) :: L, h => by
    have h1 := ndl_cons.1 h
    unfold aput
    split
    · rename_i e
      subst e
      exact ndl_cons.2 h1
    · rename_i e
      refine ndl_cons.2 ⟨fun hx => ?_, aput_nd a t h1.2⟩
      rcases fst_aput hx with h2 | h2
      · exact e h2
      · exact h1.1 h2
theorem adel_nd (a : Ad) : ∀ {L : List (Ad × Int)}, NdL L → NdL (adel L a)
  | [], h => h
  | (b, u) :: L, h => by
    have h1 := ndl_cons.1 h
    unfold adel
    split
    · exact h1.2
    · refine ndl_cons.2 ⟨fun hx => ?_, adel_nd a h1.2⟩
      obtain ⟨p, hp, e⟩ := List.mem_map.1 hx
      exact h1.1 (List.mem_map.2 ⟨p, mem_adel hp, e⟩)
theorem aget_put (a : Ad) (t : Int) (b : Ad) : ∀ {L : List (Ad × Int)}, aget (aput L a t) b = if b = a then some t else aget L b
  | [] => by
    unfold aput aget
    by_cases h : b = a
    · subst h; simp
    · have : ¬ a = b := fun e => h e.symm
      simp [h, this]
  | (c, u) :: L => by
    have ih := aget_put a t b (L := L)
    unfold aput
    by_cases hc : c = a
    · subst hc
      rw [if_pos rfl]
      unfold aget
      by_cases h : b = c
      · subst h; simp
      · have : ¬ c = b := fun e => h e.symm
        simp [h, this]
    · rw [if_neg hc]
      unfold aget at *
      by_cases h : c = b
      · subst h
        have : ¬ c = a := hc
        simp [this]
      · simpa [h] using ih
theorem aget_none {L : List (Ad × Int)} {a : Ad} (h : a ∉ L.map (·.1)) : aget L a = none := by
  unfold aget
  rw [Option.map_eq_none_iff, List.find?_eq_none]
  intro p hp e
  exact h (List.mem_map.2 ⟨p, hp, by simpa using e⟩)
theorem aget_del (a b : Ad) : ∀ {L : List (Ad × Int)}, NdL L → aget (adel L a) b = if b = a then none else aget L b
  | [], _ => by simp [adel, aget]
  | (c, u) :: L, hn => by
    have h1 := ndl_cons.1 hn
    have ih := aget_del a b h1.2
    unfold adel
    by_cases hc : c = a
    · subst hc
      rw [if_pos rfl]
      by_cases h : b = c
      · subst h
        rw [if_pos rfl]
        exact aget_none h1.1
      · have : ¬ c = b := fun e => h e.symm
        rw [if_neg h]
        unfold aget
        simp [this]
    · rw [if_neg hc]
      unfold aget at *
      by_cases h : c = b
      · subst h
        simp [hc]
      · simpa [h] using ih
theorem aget_mem {L : List (Ad × Int)} (hn : NdL L) {a : Ad} {t : Int} : aget L a = some t ↔ (a, t) ∈ L := by
  induction L with
  | nil => simp [aget]
  | cons p L ih =>
    obtain ⟨c, u⟩ := p
    have h1 := ndl_cons.1 hn
    have ih := ih h1.2
    unfold aget at *
    by_cases h : c = a
    · subst h
      simp
      constructor
      · intro e; exact .inl e.symm
      · rintro (e | e)
        · exact e.symm
        · exact absurd (List.mem_map.2 ⟨(c, t), e, rfl⟩) h1.1
    · have : ¬ a = c := fun e => h e.symm
      simp [h, this] at ih ⊢
      exact ih
structure TL (L : List (Ad × Int)) (T : Ad → Option Int) : Prop where
  nd : NdL L
  gd : GdL L
  look : ∀ a, T a = aget L a
def upd (T : Ad → Option Int) (a : Ad) (t : Option Int) (b : Ad) : Option Int := if b = a then t else T b
theorem TL.put {L : List (Ad × Int)} {T : Ad → Option Int} (h : TL L T) {a : Ad} (ha : a.good = true) (t : Int) : TL (aput L a t) (upd T a (some t)) :=
  ⟨aput_nd a t h.nd, fun p hp => by
    rcases mem_aput hp with rfl | h1 | h1
    · exact ha
    · exact h.gd p h1.1
    · exact h.gd p h1, fun b => by rw [aget_put]; unfold upd; split; rfl; exact h.look b⟩
theorem TL.del {L : List (Ad × Int)} {T : Ad → Option Int} (h : TL L T) (a : Ad) : TL (adel L a) (upd T a none) :=
  ⟨adel_nd a h.nd, fun p hp => h.gd p (mem_adel hp), fun b => by rw [aget_del a b h.nd]; unfold upd; split; rfl; exact h.look b⟩
theorem TL.mem {L : List (Ad × Int)} {T : Ad → Option Int} (h : TL L T) {a : Ad} {t : Int} : T a = some t ↔ (a, t) ∈ L := by rw [h.look]; exact aget_mem h.nd
theorem nd_len : ∀ (l D : List Ad), l.Nodup → (∀ a ∈ l, a ∈ D) → l.length ≤ D.length
  | [], _, _, _ => Nat.zero_le _
  | a :: l, D, hn, hs => by
    have h1 := List.nodup_cons.1 hn
    have ha := hs a List.mem_cons_self
    have ih := nd_len l (D.erase a) h1.2 fun b hb => (List.mem_erase_of_ne (fun e => h1.1 (by rw [← e]; exact hb))).2 (hs b (List.mem_cons_of_mem _ hb))
    rw [List.length_erase_of_mem ha] at ih
    have : 0 < D.length := List.length_pos_of_mem ha
    rw [List.length_cons]
    omega
theorem TL.len {L : List (Ad × Int)} {T : Ad → Option Int} (h : TL L T) {D : List Ad} (hD : ∀ a, T a ≠ none → a ∈ D) : L.length ≤ D.length := by
  have h1 : (L.map (·.1)).length ≤ D.length := nd_len _ _ h.nd fun a ha => by
    obtain ⟨p, hp, rfl⟩ := List.mem_map.1 ha
    exact hD p.1 (by rw [h.mem.2 (show (p.1, p.2) ∈ L from hp)]; simp)
  simpa using h1
theorem keys_of {L : List (Ad × Int)} {ss : List (List UInt8)} (h : ss.Perm (L.map fun p => p.1.kk)) : ∃ ks : List (Ad × Int), ks.Perm L ∧ ss = ks.map fun p => p.1.kk := by
  have key : ∀ (m : List (List UInt8)) (l : List (Ad × Int)), (l.map fun p => p.1.kk).Perm m → ∃ l', l.Perm l' ∧ l'.map (fun p => p.1.kk) = m := by
    intro m
    induction m with
    | nil =>
      intro l h
      have := h.length_eq
      cases l with
      | nil => exact ⟨[], .nil, rfl⟩
      | cons a l => simp at this
    | cons b m ih =>
      intro l h
      have hb : b ∈ l.map fun p => p.1.kk := h.mem_iff.2 List.mem_cons_self
      obtain ⟨a, ha, rfl⟩ := List.mem_map.1 hb
      obtain ⟨s, t, rfl⟩ := List.append_of_mem ha
      have h1 : ((s ++ a :: t).map fun p => p.1.kk).Perm (a.1.kk :: (s ++ t).map fun p => p.1.kk) := by
        simp only [List.map_append, List.map_cons]
        exact List.perm_middle
      obtain ⟨l', h2, h3⟩ := ih (s ++ t) ((h1.symm.trans h).cons_inv)
      exact ⟨a :: l', List.perm_middle.trans (h2.cons a), by simp [h3]⟩
  obtain ⟨ks, h1, h2⟩ := key ss L h.symm
  exact ⟨ks, h1.symm, h2.symm⟩
structure ClkAt (w : World) (c b : Nat) (T : Ad → Option Int) (L : List (Ad × Int)) : Prop where
  blk : Blk w c 132 [.map (some b)]
  mp : Ms w b (enm L)
  tl : TL L T
theorem ClkAt.keep {w w' : World} {c b : Nat} {T : Ad → Option Int} {L : List (Ad × Int)} {F : Nat → Prop} (h : ClkAt w c b T L) (hm : Mod F w w') (hc : ¬ F c) (hb : ¬ F b) : ClkAt w' c b T L := ⟨h.blk.keep hm hc, h.mp.keep hm hb, h.tl⟩
theorem ClkAt.keep0 {w w' : World} {c b : Nat} {T : Ad → Option Int} {L : List (Ad × Int)} (h : ClkAt w c b T L) (hm : Mod (fun _ => False) w w') : ClkAt w' c b T L := h.keep hm (fun f => f) fun f => f
theorem ClkAt.ne {w : World} {c b : Nat} {T : Ad → Option Int} {L : List (Ad × Int)} (h : ClkAt w c b T L) : b ≠ c := h.mp.ne h.blk
theorem zeroI : ∀ w : World, (zeroValue 3).run Tryz.prog w = .ok (.int .i64 0) w := fun w => by
  obtain ⟨i, h1, h2, _⟩ := info_parts (show (Tryz.prog.info? 3).map (fun i => (i.zero, i.size, i.bytes)) = some (some (.int .i64 0), 1, 8) from by kernel_rfl)
  simp [zeroValue, typeInfo, h1, h2, Result.andThen]
set_option maxRecDepth 100000 in
theorem cNew (w : World) : Calls Tryz.prog 40 #[] w fun e w' => ∃ c b, e = .returned (.pointer (some ⟨c, 0, none⟩)) ∧ ClkAt w' c b (fun _ => none) [] ∧ w.heap.size ≤ c ∧ w.heap.size ≤ b ∧ Mod (fun _ => False) w w' := by
  have hmm : ∀ w : World, (Instr.makeMap 130 none).run Tryz.prog w = .ok (.map (some w.heap.size)) (w.alloc (.map #[] 0)) := fun w => rfl
  go_enter Tryz.func40, Tryz.ntmps40
  go_wp2
  go_ret
  exact ⟨w.heap.size + 1, w.heap.size, by simp, ⟨by have := allocNew (w.alloc (.map #[] 0)) (.cells #[.map (some w.heap.size)] 132 (0, 0)); simpa [Blk] using this, (Ms.made w).alloc _, ⟨List.nodup_nil, fun p hp => (by cases hp), fun a => rfl⟩⟩, by omega, Nat.le_refl _, ((Mod.refl _ _).alloc _).alloc _⟩
section
variable {w : World} {c b : Nat} {T : Ad → Option Int} {L : List (Ad × Int)} (h : ClkAt w c b T L) {a : Ad} (ha : a.good = true)
include h
include ha
set_option maxRecDepth 100000 in
theorem cSet (t : Int) : Calls Tryz.prog 56 #[.pointer (some ⟨c, 0, none⟩), .string a.key, .int .i64 t] w fun e w' => (∃ x, e = .returned (.bool x)) ∧ ClkAt w' c b (upd T a (some t)) (aput L a t) ∧ Mod (fun k => k = b) w w' := by
  have c0 : w.cell? ⟨c, 0, none⟩ = some (.map (some b)) := h.blk.cell rfl
  have HH := Lib.hid h
  have HA := Lib.hid ha
  have HG : Hid (mputS (enm L) a.kk (.int .i64 t) = enm (aput L a t)) := Lib.hid (mput_enm ha t h.tl.gd)
  obtain ⟨x, hx⟩ : ∃ x, x = (mgetS (enm L) a.kk).getD (.int .i64 0) := ⟨_, rfl⟩
  obtain ⟨is, his⟩ : ∃ is, is = (mgetS (enm L) a.kk).isSome := ⟨_, rfl⟩
  have HL : Hid (∀ {o : Oper} {ev : Operand → Value} {x' i : Operand}, o.op = .lookup 130 x' i true → ev x' = .map (some b) → ev i = .string a.key → (execOp ev o).run Tryz.prog w = .ok (.value (.tuple #[x, .bool is])) w) := Lib.hid fun ho hx' hi => by
    have := exec_lookup_ms (P := Tryz.prog) Tryz.underlying130 Tryz.underlying9 zeroI ho hx' hi h.mp
    rw [hx, his]
    exact this
  clear h ha hx his
  go_enter Tryz.func56, Tryz.ntmps56
  go_wp2_with (first | (refine wpList_val rfl (.tuple #[x, .bool is]) (HL.out rfl rfl rfl) ?_) | (refine wpList_plain rfl fun K hK => wp_update_ms (k := a.kk) (v := .int .i64 t) Tryz.underlying130 Tryz.underlying9 rfl rfl rfl rfl HH.out.mp fun w' h1 h2 => hK _ _ ?_; have H1 := Lib.hid h1; have H2 := Lib.hid h2; clear h1 h2))
  go_ret
  refine ⟨⟨_, rfl⟩, ⟨HH.out.blk.keep H2.out fun e => HH.out.ne e.symm, by have := H1.out; rwa [HG.out] at this, HH.out.tl.put HA.out t⟩, H2.out⟩
set_option maxRecDepth 100000 in
theorem cCut : Calls Tryz.prog 101 #[.pointer (some ⟨c, 0, none⟩), .string a.key] w fun e w' => (∃ x, e = .returned (.bool x)) ∧ ClkAt w' c b (upd T a none) (adel L a) ∧ Mod (fun k => k = b) w w' := by
  have c0 : w.cell? ⟨c, 0, none⟩ = some (.map (some b)) := h.blk.cell rfl
  have HH := Lib.hid h
  have HA := Lib.hid ha
  have HG : Hid (mdelS (enm L) a.kk = enm (adel L a)) := Lib.hid (mdel_enm ha h.tl.gd)
  obtain ⟨x, hx⟩ : ∃ x, x = (mgetS (enm L) a.kk).getD (.int .i64 0) := ⟨_, rfl⟩
  obtain ⟨is, his⟩ : ∃ is, is = (mgetS (enm L) a.kk).isSome := ⟨_, rfl⟩
  have HL : Hid (∀ {o : Oper} {ev : Operand → Value} {x' i : Operand}, o.op = .lookup 130 x' i true → ev x' = .map (some b) → ev i = .string a.key → (execOp ev o).run Tryz.prog w = .ok (.value (.tuple #[x, .bool is])) w) := Lib.hid fun ho hx' hi => by
    have := exec_lookup_ms (P := Tryz.prog) Tryz.underlying130 Tryz.underlying9 zeroI ho hx' hi h.mp
    rw [hx, his]
    exact this
  clear h ha hx his
  go_enter Tryz.func101, Tryz.ntmps101
  go_wp2_with (first | (refine wpList_val rfl (.tuple #[x, .bool is]) (HL.out rfl rfl rfl) ?_) | (refine wpList_plain rfl fun K hK => wp_delete_ms (k := a.kk) Tryz.underlying130 Tryz.underlying9 rfl rfl rfl HH.out.mp fun w' h1 h2 => hK _ _ ?_; have H1 := Lib.hid h1; have H2 := Lib.hid h2; clear h1 h2))
  go_ret
  refine ⟨⟨_, rfl⟩, ⟨HH.out.blk.keep H2.out fun e => HH.out.ne e.symm, by have := H1.out; rwa [HG.out] at this, HH.out.tl.del a⟩, H2.out⟩
end
end Go.Proofs.YtcccdlmngddalaaGreat
namespace Go.Proofs.YtcccdlmngddalaaGreat
open Go.RowKit Go.Maps Go.Sort Go.Shelf
theorem Mod.ofBelow {w w' : World} (h : Below w.heap.size w w') : Mod (fun _ => False) w w' := ⟨h.os, h.tape, h.output, h.size, fun k hk _ => h.block k hk⟩
theorem Row.ofOwns {w : World} {base : Nat} {e : TypeId} {v : Value} {n : Nat} {xs : List Value} (h : w.ownsRow base e 1 v n xs) : Row w (fun k => base ≤ k) e 1 v n xs := by
  obtain ⟨hl, h⟩ := h
  rcases h with ⟨rfl, rfl⟩ | ⟨g, cap, cur, rfl, hb, hg, r⟩
  · exact ⟨⟨hl, .inl ⟨rfl, rfl⟩⟩, fun g hg => by simp [Value.ownBlock] at hg⟩
  · exact ⟨⟨hl, .inr ⟨g, cap, cur, rfl, Nat.zero_le _, hg, r⟩⟩, fun g' hg' => by simp [Value.ownBlock] at hg'; exact hg' ▸ hb⟩
theorem Tryz.sortsA (m : Nat) : AnyZ.SortsIn Tryz.prog Tryz.sortedA_ren Fence.wide m :=
  ⟨fun blk off cap ss W hH hblk hsz => callsIn_wide.2 (AnyM.slices_Sort_string Tryz.sortA blk off cap ss W hH hblk hsz),
   fun p cap W => callsIn_wide.2 (AnyM.slices_Sort_string_none Tryz.sortA p cap W)⟩
def RowS (w : World) (f : Nat → Prop) (v : Value) (ks : List (Ad × Int)) : Prop := Row w f 9 1 v ks.length (ks.map fun p => encStr p.1.kk)
theorem enm_keys {H : Type} {L : List (Ad × Int)} {l : List (Lit × DataW H)} (h : l.Perm ((enm L).map enS)) : (strKeys (DataW.map l)).Perm (L.map fun p => p.1.kk) := by
  have := h.map fun p : Lit × DataW H => strOf p.1
  refine List.Perm.trans (List.Perm.of_eq ?_) (this.trans (List.Perm.of_eq ?_))
  · rfl
  · unfold enm
    rw [List.map_map, List.map_map]
    exact List.map_congr_left fun p _ => rfl
theorem enm_fit {L : List (Ad × Int)} : (∀ p ∈ enm L, p.1.length ≤ maxLen) ∧ (∀ p ∈ enm L, IntV p.2) ∧ (enm L).length = L.length := by
  refine ⟨fun p hp => ?_, fun p hp => ?_, by simp [enm]⟩
  · obtain ⟨q, hq, rfl⟩ := List.mem_map.1 hp
    show q.1.kk.length ≤ maxLen
    unfold Ad.kk Ad.kb
    rw [List.length_map]
    have h1 := q.1.ok.1
    have h2 := (take4 q.1.ok).1
    unfold maxLen
    split <;> omega
  · obtain ⟨q, hq, rfl⟩ := List.mem_map.1 hp
    exact ⟨_, rfl⟩
set_option maxRecDepth 100000 in
set_option maxHeartbeats 4000000 in
theorem cKeys {w : World} {c b : Nat} {T : Ad → Option Int} {L : List (Ad × Int)} (h : ClkAt w c b T L) (hl : L.length ≤ 3000) :
    Calls Tryz.prog 100 #[.pointer (some ⟨c, 0, none⟩)] w fun e w' => ∃ v ks, e = .returned v ∧ ks.Perm L ∧ RowS w' (fun k => w.heap.size ≤ k) v ks ∧ Mod (fun _ => False) w w' := by
  have c0 : w.cell? ⟨c, 0, none⟩ = some (.map (some b)) := h.blk.cell rfl
  obtain ⟨q1, q2, q3⟩ := enm_fit (L := L)
  obtain ⟨ml, hown, hperm⟩ := h.mp.owns (H := Unit) (P := Tryz.prog) (kt := 9) Tryz.underlying9 q1 q2 (by rw [q3]; unfold maxLen; omega)
  have hkp := enm_keys hperm
  have hsz : Maps.size (DataW.map ml) = L.length := by have := hperm.length_eq; simp [Maps.size, enm] at this ⊢; omega
  have hbl := hown.lt
  have HFF : Hid (∀ ss : List (List UInt8), ss.Perm (strKeys (DataW.map ml)) → ∃ ks : List (Ad × Int), ks.Perm L ∧ (ss.mergeSort fun x y => decide (x ≤ y)) = (ks.map fun p => p.1.kk) ∧ ss.length = ks.length) := Lib.hid fun ss hs => by
    have h2 : (ss.mergeSort fun x y => decide (x ≤ y)).Perm ss := List.mergeSort_perm ss _
    obtain ⟨ks, h3, h4⟩ := keys_of (h2.trans (hs.trans hkp))
    exact ⟨ks, h3, h4, by have := h2.length_eq; rw [h4] at this; simpa using this.symm⟩
  clear hkp hperm h
  refine (callsIn_wide (n := 6)).1 ?_
  have hseq : SeqGives Fence.wide 2 Tryz.prog 151 #[.pointer (some ⟨w.heap.size, 0, none⟩)] encStr (fun ss => ss.Perm (strKeys (DataW.map ml))) (Maps.size (DataW.map ml)) (w.alloc (.cells #[.map (some b)] 130)) :=
    AnyZ.keys_gives (ρ := Tryz.keysA_ren) { Tryz.keysA with } Fence.wide _ trivial rfl (by omega) w.heap.size b _ (DataW.map ml) _ (by simp) (by simp) (by
      obtain ⟨es, clock, hb, Ft, hs, hD⟩ := hown
      exact ⟨es, clock, (Below.heap_alloc _ _ b hbl).trans hb, Ft, hs, hD⟩)
  have cK : ∀ mb W, CallsIn Fence.wide 5 Tryz.prog 134 #[.map mb] W fun e w' => e = .returned (.func (.func 151) #[] #[.pointer (some ⟨W.heap.size, 0, none⟩)]) ∧ w' = W.alloc (.cells #[.map mb] 130) := fun mb W => AnyZ.keys_in Tryz.keysA Fence.wide 5 trivial rfl mb W
  have cS := AnyZ.sorted_in Tryz.sortedA Fence.wide 5 trivial trivial trivial trivial rfl (by omega) (Tryz.sortsA _) (enters_of Tryz.func150 (by kernel_rfl) rfl) 151 #[.pointer (some ⟨w.heap.size, 0, none⟩)] trivial (enters_of Tryz.func151 (by kernel_rfl) rfl) _ _ (by rw [hsz]; unfold maxLen; omega) (by rw [hsz]; omega) _ hseq
  change CallsIn _ _ Tryz.prog 133 _ _ _ at cS
  have hfK : Fence.wide.fn 134 := trivial
  have hfS : Fence.wide.fn 133 := trivial
  clear hown hseq hbl hsz
  refine callsIn_of_wp Tryz.func100 rfl trivial ?_ rfl
  simp only [Tryz.ntmps100, List.size_toArray, List.length_cons, List.length_nil, Nat.reduceAdd, Nat.reduceSub, Array.replicate_succ, Array.replicate_zero, List.push_toArray, List.append_toArray, List.nil_append, List.cons_append]
  gi_wp2_with (first
    | (gi_at_call 134; refine (cK _ _).mono ?_; rintro e w' ⟨rfl, rfl⟩)
    | (gi_at_call 133; refine cS.mono ?_; rintro e w' ⟨v, ss, rfl, hS, hrow, hnil, hb⟩))
  go_ret
  obtain ⟨ks, h1, h2, h3⟩ := HFF.out ss hS
  rw [h2, h3, List.map_map] at hrow
  exact ⟨v, ks, rfl, h1, (Row.ofOwns hrow).mono fun k hk => by simp at hk; omega, ((Mod.refl _ _).alloc _).trans (Mod.ofBelow hb) fun _ f => f.elim⟩
def SortOk (N : Nat) : Prop := ∀ (w : World) (c b : Nat) (T : Ad → Option Int) (L : List (Ad × Int)) (f : Nat → Prop) (v : Value) (ks : List (Ad × Int)), ClkAt w c b T L → RowS w f v ks → 0 < ks.length → ks.length ≤ N → (∀ k, f k → k ≠ b ∧ k ≠ c) →
  Calls Tryz.prog 146 #[v, .func (.func 102) #[.pointer (some ⟨c, 0, none⟩)] #[]] w fun e w' => e = .returned (.tuple #[]) ∧ ∃ ks', ks'.Perm ks ∧ RowS w' f v ks' ∧ Mod (fun k => v.ownBlock = some k) w w'
theorem Tryz.elS : Elem Tryz.prog 133 9 (.string ⟨#[]⟩) 1 16 := .mk' Tryz.underlying133 (by kernel_rfl) rfl
theorem Mod.grownBy {w w' : World} {row : Option Nat} (h : Mod (fun k => row = some k) w w') : w.grownBy w' row := ⟨h.os, h.tape, h.output, h.size, fun k hk hn => h.block k hk fun e => hn e.symm⟩
theorem Mod.ofGrown {w w' : World} {row : Option Nat} (h : w.grownBy w' row) : Mod (fun k => row = some k) w w' := (Mod.refl _ w).grown h fun k hk => .inl hk
theorem enS_mem {L : List (Ad × Int)} {ml : List (Lit × DataW Unit)} (hp : ml.Perm ((enm L).map enS)) (hap : ml.Pairwise (fun p q => p.1 ≠ q.1)) {x : List UInt8} {c : Int} (hat : ∀ zd, (DataW.map ml).atKey (.string x) zd = .lit (.int .i64 c)) : ∃ p ∈ L, p.1.kk = x ∧ p.2 = c := by
  have hh : has (.map ml) (.string x) = true := has_true_of_atKey hat
  rw [has_eq, List.any_eq_true] at hh
  obtain ⟨q, hq, hs⟩ := hh
  obtain ⟨e, he, rfl⟩ := List.mem_map.1 (hp.mem_iff.1 hq)
  obtain ⟨p, hpL, rfl⟩ := List.mem_map.1 he
  have hx : p.1.kk = x := by simpa [Lit.sameKey, enS] using hs
  refine ⟨p, hpL, hx, ?_⟩
  have h1 := WideAt.atKey_mem (k := .string x) (d := .lit (.int .i64 p.2)) (.nil : DataW Unit) trivial hap (by rw [← hx]; exact hq)
  rw [hat] at h1
  injection h1 with h1
  injection h1 with _ h1
  exact h1.symm
theorem seen_perm {L s : List (Ad × Int)} {ss : List (List UInt8)} (hn : NdL L) (hg : GdL L) (hs : ∀ p ∈ s, p ∈ L) (e : s.map (fun p => p.1.kk) = ss) (hnd : ss.Nodup) (hp : ss.Perm (L.map fun p => p.1.kk)) : s.Perm L := by
  subst e
  have nd1 : s.Nodup := (List.pairwise_map.1 hnd).imp fun h e => h (by rw [e])
  have nd2 : L.Nodup := (List.pairwise_map.1 hn).imp fun h e => h (by rw [e])
  refine (List.perm_ext_iff_of_nodup nd1 nd2).2 fun p => ⟨hs p, fun hpL => ?_⟩
  obtain ⟨q, hq, hqk⟩ := List.mem_map.1 (hp.mem_iff.2 (List.mem_map_of_mem (f := fun p => p.1.kk) hpL))
  have h1 := hs q hq
  have h2 : q.1 = p.1 := kk_inj (hg q h1) (hg p hpL) hqk
  have h3 : q.2 = p.2 := by
    have a := (aget_mem hn (a := q.1) (t := q.2)).2 h1
    have b := (aget_mem hn (a := p.1) (t := p.2)).2 hpL
    rw [h2, b] at a
    injection a with a
    exact a.symm
  have : q = p := Prod.ext h2 h3
  exact this ▸ hq
theorem nd_lenS : ∀ (l D : List (List UInt8)), l.Nodup → (∀ a ∈ l, a ∈ D) → l.length ≤ D.length
  | [], _, _, _ => Nat.zero_le _
  | a :: l, D, hn, hs => by
    have h1 := List.nodup_cons.1 hn
    have ha := hs a List.mem_cons_self
    have ih := nd_lenS l (D.erase a) h1.2 fun b hb => (List.mem_erase_of_ne (fun e => h1.1 (by rw [← e]; exact hb))).2 (hs b (List.mem_cons_of_mem _ hb))
    rw [List.length_erase_of_mem ha] at ih
    have : 0 < D.length := List.length_pos_of_mem ha
    rw [List.length_cons]
    omega
theorem Tryz.sortFS0 : SlLaysF0.n6 Tryz.prog Tryz.sortFS_ren := { Tryz.sortFS with }
def dueL (now : Int) (s : List (Ad × Int)) : List (Ad × Int) := s.filter fun p => decide (p.2 ≤ now)
structure DueI (w wr : World) (now : Int) (L : List (Ad × Int)) (D0 : DataW Unit) (left : Lit → Bool) (v : Value) (s : List (Ad × Int)) : Prop where
  row : RowS wr (fun k => w.heap.size < k) v (dueL now s)
  nil : dueL now s = [] → v = .slice none 0 0
  sub : ∀ p ∈ s, p ∈ L
  col : Collected D0 left (s.map fun p => p.1.kk)
  mod : Mod (fun _ => False) w wr
set_option maxRecDepth 100000 in
set_option maxHeartbeats 1000000 in
theorem cdue {N : Nat} (SO : SortOk N) {w : World} {c b : Nat} {T : Ad → Option Int} {L : List (Ad × Int)} (h : ClkAt w c b T L) (hl : L.length ≤ 3000) (now : Int) (hN : (dueL now L).length ≤ N) :
    Calls Tryz.prog 124 #[.pointer (some ⟨c, 0, none⟩), .int .i64 now] w fun e w' => ∃ v ks, e = .returned v ∧ ks.Perm (dueL now L) ∧ RowS w' (fun k => w.heap.size ≤ k) v ks ∧ Mod (fun _ => False) w w' := by
  have c0 : w.cell? ⟨c, 0, none⟩ = some (.map (some b)) := h.blk.cell rfl
  have K : Keyed Tryz.prog 9 := string_keyed Tryz.underlying9
  obtain ⟨q1, q2, q3⟩ := enm_fit (L := L)
  obtain ⟨ml, hown, hperm⟩ := h.mp.owns (H := Unit) (P := Tryz.prog) (kt := 9) Tryz.underlying9 q1 q2 (by rw [q3]; unfold maxLen; omega)
  obtain ⟨ml', hml, hap, _⟩ := hown.entries K
  obtain rfl : ml = ml' := by injection hml
  have HH := Lib.hid h
  have HP := Lib.hid hperm
  have HAP := Lib.hid hap
  have HOWN := Lib.hid hown
  have HN := Lib.hid hN
  have HSO := Lib.hid SO
  have hbl := hown.lt
  clear hperm hap hml h hN SO q1 q2 q3
  go_enter Tryz.func124, Tryz.ntmps124
  go_wp2_with (first
    | (at_range; refine wpList_range_own _ rfl _ 130 rfl 9 3 K Tryz.underlying130 Ri b _ _ rfl HOWN.out ?_; intro w0 hrg0 hg0 hs0)
    | go_in)
  go_frame
  have HI0 : Hid (DueI w w0 now L (.map ml) (has (.map ml)) (.slice none 0 0) []) := Lib.hid ⟨Row.nil _ _ _ _, fun _ => rfl, fun p hp => (by cases hp), Collected.start _, (Mod.ofGrown hg0).mono fun k hk => by cases hk⟩
  go_loopw [5] (fun v wr => ∃ (left : Lit → Bool) (cnt : Nat) (s : List (Ad × Int)), wr.ranges Tryz.prog 9 Ri b w.heap.size (enm L).length (.map ml) left cnt ∧ DueI w wr now L (.map ml) left v s)
    (fun _ wr => wr.rangeLeft b w.heap.size)
  case atStart => exact ⟨_, _, [], hrg0, HI0.out⟩
  case round =>
    obtain ⟨left, cnt, s, hrg, hd⟩ := hrel
    have HD := Lib.hid hd
    have HRG := Lib.hid hrg
    have hsl : Hid ((dueL now s).length ≤ 3000) := Lib.hid (by
      have h1 : (s.map fun p => p.1.kk).length ≤ (L.map fun p => p.1.kk).length := by
        have h2 := hd.col.1
        have h3 : ∀ x ∈ s.map (fun p => p.1.kk), x ∈ L.map (fun p => p.1.kk) := fun x hx => by
          obtain ⟨p, hp, rfl⟩ := List.mem_map.1 hx
          exact List.mem_map_of_mem (hd.sub p hp)
        exact nd_lenS _ _ h2 h3
      simp at h1
      have := List.length_filter_le (fun p : Ad × Int => decide (p.2 ≤ now)) s
      unfold dueL
      omega)
    clear hd hrg HI0
    go_wp2_with (first
      | (at_next; refine wpList_next_ranges _ rfl _ rfl 9 K Ri (fun x : List UInt8 => Value.string ⟨x.toArray⟩) (Value.int .i64) (fun key kl hk => by obtain ⟨x, hx, _⟩ := Maps.keyOf_str Tryz.underlying9 hk; exact ⟨x, hx⟩) (fun v y hv => by obtain ⟨t, ht, _⟩ := Ri_int hv; exact ⟨t, ht⟩) b w.heap.size _ _ _ _ rfl HRG.out ?_ ?_)
      | go_in)
    · -- nothing is left
      intro hc0 hl0
      have HPM : Hid (s.Perm L) := Lib.hid (seen_perm HH.out.tl.nd HH.out.tl.gd HD.out.sub rfl HD.out.col.1 ((HD.out.col.perm HRG.out.owns K Tryz.underlying9 hl0).trans (enm_keys HP.out)))
      have HDP : Hid ((dueL now s).Perm (dueL now L)) := Lib.hid (HPM.out.filter _)
      have HCK := Lib.hid (HH.out.keep0 HD.out.mod)
      clear hc0 hl0
      by_cases he : dueL now s = []
      · have hv := HD.out.nil he
        subst hv
        have HE := Lib.hid he
        clear he
        go_wp2_with (go_at_call 146; refine (AnyF.slices_SortFunc_none Tryz.sortFS0 none 0 _ _).mono ?_; rintro e w' ⟨rfl, rfl⟩)
        go_ret
        exact ⟨_, [], rfl, by have := HDP.out; rwa [HE.out] at this, Row.nil _ _ _ _, HD.out.mod⟩
      · have HS := Lib.hid (HSO.out wr c b T L _ u5 (dueL now s) HCK.out HD.out.row (List.length_pos_iff.2 he) (by rw [HDP.out.length_eq]; exact HN.out) (fun k hk => ⟨by have := HOWN.out.lt; omega, by have := HH.out.blk.lt; omega⟩))
        clear he
        go_wp2_with (go_at_call 146; refine HS.out.mono ?_; rintro e w' ⟨rfl, ks', hp', hr', hm'⟩; have HP' := Lib.hid hp'; have HR' := Lib.hid hr'; have HM' := Lib.hid hm'; clear hp' hr' hm')
        go_ret
        exact ⟨_, ks', rfl, HP'.out.trans HDP.out, Row.mono HR'.out fun k hk => by omega, HD.out.mod.trans HM'.out fun k hk => .inr (by have := HD.out.row.2 k hk; omega)⟩
    · -- an entry has come
      intro x t kl yd yp w1 cnt1 hkey hlx hv hat hrg1 hlt hg1 hs1 hen
      obtain ⟨x', ex, rfl, _⟩ := Maps.keyOf_str Tryz.underlying9 hkey
      obtain rfl : x = x' := encStr_inj ex
      obtain ⟨t', et, ey⟩ := Ri_int hv
      obtain rfl : t = t' := by injection et
      injection ey with ey _
      subst ey
      obtain ⟨p, hpL, hpk, hpt⟩ := enS_mem HP.out HAP.out hat
      subst hpk hpt
      have HM1 : Hid (Mod (fun _ => False) w w1) := Lib.hid (HD.out.mod.trans (Mod.ofGrown hg1) fun k hk => .inr (by injection hk with hk; omega))
      have HC1 := Lib.hid (HD.out.col.step hlx hat)
      have HPL := Lib.hid hpL
      have HRG1 := Lib.hid hrg1
      have HLT := Lib.hid hlt
      have hlr := HRG.out.lt
      have HR1 : Hid (RowS w1 (fun k => w.heap.size < k) u5 (dueL now s)) := Lib.hid (Row.keep HD.out.row (Mod.ofGrown hg1) fun k hk e => by injection e with e; omega)
      have HLE : Hid (wr.rangeLeft b w.heap.size = cnt) := Lib.hid HRG.out.left_eq
      clear hkey hv hat hg1 hs1 hlx hpL hrg1 hlt et
      by_cases hle : p.2 ≤ now
      · have hd1 : decide (p.2 ≤ now) = true := decide_eq_true hle
        have HDS : Hid (dueL now (s ++ [p]) = dueL now s ++ [p]) := Lib.hid (by unfold dueL; rw [List.filter_append]; simp [hle])
        clear hd1
        go_wp2_with (first | (at_builtin; refine wpList_append_one Tryz.elS rfl (.tmp 23) (.tmp 25) rfl #[.string ⟨p.1.kk.toArray⟩] _ _ _ _ (HR1.out.alloc _) _ (allocNew w1 _) rfl rfl rfl (by simp [Value.oneCell']) (by have := hsl.out; omega) (by have := hsl.out; unfold maxLen; omega) ?_; intro v5 w5 hr5 hm5; have HR5 := Lib.hid hr5; have HM5 := Lib.hid hm5; clear hr5 hm5))
        go_roundw
        case rel =>
          have hgr : (w1.alloc (.cells #[.string ⟨p.1.kk.toArray⟩] 9 (0, 0))).grownBy w5 u5.ownBlock := HM5.out.grownBy
          refine ⟨_, cnt1, s ++ [p], (HRG1.out.alloc _).kept hgr (fun e => ?_) (fun e => ?_), ?_⟩
          · have := HR1.out.2 b e.symm; have := HOWN.out.lt; omega
          · have := HR1.out.2 w.heap.size e.symm; omega
          · refine ⟨?_, fun he => ?_, fun q hq => ?_, ?_, ?_⟩
            · rw [HDS.out]
              have := HR5.out
              unfold RowS
              rw [List.length_append, List.map_append]
              exact this.mono fun k hk => hk.elim (fun h => h) fun h => by simp at h; have := HRG1.out.lt; omega
            · rw [HDS.out] at he; simp at he
            · rcases List.mem_append.1 hq with hq | hq
              · exact HD.out.sub q hq
              · rw [List.mem_singleton.1 hq]; exact HPL.out
            · rw [List.map_append]; exact HC1.out
            · exact (HM1.out.alloc _).trans HM5.out fun k hk => .inr (by have := HR1.out.2 k hk; omega)
        case measure =>
          have hgr : (w1.alloc (.cells #[.string ⟨p.1.kk.toArray⟩] 9 (0, 0))).grownBy w5 u5.ownBlock := HM5.out.grownBy
          have := ((HRG1.out.alloc (.cells #[.string ⟨p.1.kk.toArray⟩] 9 (0, 0))).kept hgr (fun e => by have := HR1.out.2 b e.symm; have := HOWN.out.lt; omega) (fun e => by have := HR1.out.2 w.heap.size e.symm; omega)).left_eq
          rw [this, HLE.out]
          exact HLT.out
      · have hd1 : decide (p.2 ≤ now) = false := decide_eq_false hle
        have HDS : Hid (dueL now (s ++ [p]) = dueL now s) := Lib.hid (by unfold dueL; rw [List.filter_append]; simp [hle])
        clear hd1
        go_wp2
        go_roundw
        case rel =>
          refine ⟨_, cnt1, s ++ [p], HRG1.out, by rw [HDS.out]; exact HR1.out, fun he => HD.out.nil (by rw [← HDS.out]; exact he), fun q hq => ?_, by rw [List.map_append]; exact HC1.out, HM1.out⟩
          rcases List.mem_append.1 hq with hq | hq
          · exact HD.out.sub q hq
          · rw [List.mem_singleton.1 hq]; exact HPL.out
        case measure => rw [HRG1.out.left_eq, HLE.out]; exact HLT.out
def updn (T : Ad → Option Int) (now : Int) (a : Ad) : Option Int :=
  match T a with
  | some t => if t ≤ now then none else some t
  | none => none
def cutT (T : Ad → Option Int) (ks : List (Ad × Int)) (a : Ad) : Option Int := if a ∈ ks.map (·.1) then none else T a
theorem cutT_due {L ks : List (Ad × Int)} {T : Ad → Option Int} (h : TL L T) {now : Int} (hp : ks.Perm (dueL now L)) : cutT T ks = updn T now := by
  funext a
  unfold cutT updn
  have key : a ∈ ks.map (·.1) ↔ ∃ t, T a = some t ∧ t ≤ now := by
    rw [List.mem_map]
    constructor
    · rintro ⟨p, hpk, rfl⟩
      have := hp.mem_iff.1 hpk
      unfold dueL at this
      rw [List.mem_filter] at this
      exact ⟨p.2, h.mem.2 this.1, by simpa using this.2⟩
    · rintro ⟨t, ht, hle⟩
      refine ⟨(a, t), hp.mem_iff.2 ?_, rfl⟩
      unfold dueL
      exact List.mem_filter.2 ⟨h.mem.1 ht, by simpa using hle⟩
  cases hT : T a with
  | none =>
    rw [if_neg]
    rw [key, hT]
    simp
  | some t =>
    by_cases hle : t ≤ now
    · rw [if_pos (key.2 ⟨t, hT, hle⟩)]
      simp [hle]
    · rw [if_neg]
      · simp [hle]
      · rw [key, hT]
        rintro ⟨u, hu, h2⟩
        injection hu with hu
        omega
theorem cutT_take {T : Ad → Option Int} {ks : List (Ad × Int)} {j : Nat} {p : Ad × Int} (hp : ks[j]? = some p) : cutT T (ks.take (j + 1)) = upd (cutT T (ks.take j)) p.1 none := by
  funext a
  unfold cutT upd
  rw [List.take_add_one, hp]
  simp only [Option.toList_some, List.map_append, List.map_cons, List.map_nil, List.mem_append, List.mem_singleton]
  by_cases h1 : a = p.1
  · simp [h1]
  · simp [h1]
set_option maxRecDepth 100000 in
set_option maxHeartbeats 1000000 in
theorem cPop {N : Nat} (SO : SortOk N) {w : World} {c b : Nat} {T : Ad → Option Int} {L : List (Ad × Int)} (h : ClkAt w c b T L) (hl : L.length ≤ 3000) (now : Int) (hN : (dueL now L).length ≤ N) :
    Calls Tryz.prog 82 #[.pointer (some ⟨c, 0, none⟩), .int .i64 now] w fun e w' => ∃ v ks L', e = .returned v ∧ ks.Perm (dueL now L) ∧ RowS w' (fun k => w.heap.size ≤ k) v ks ∧ ClkAt w' c b (updn T now) L' ∧ Mod (fun k => k = b) w w' := by
  have HD := Lib.hid (cdue SO h hl now hN)
  have HH := Lib.hid h
  have hdl : (dueL now L).length ≤ 3000 := by
    have := List.length_filter_le (fun p : Ad × Int => decide (p.2 ≤ now)) L
    unfold dueL
    omega
  clear h hN SO
  go_enter Tryz.func82, Tryz.ntmps82
  go_wp2_with fail
  refine HD.out.mono ?_
  rintro e w1 ⟨v, ks, rfl, hp, hr, hm⟩
  obtain ⟨n, hn⟩ : ∃ n, n = ks.length := ⟨_, rfl⟩
  have hn3 : n ≤ 3000 := by rw [hn, hp.length_eq]; exact hdl
  have hr' := hr
  unfold RowS at hr'
  obtain ⟨ad, cap, rfl, hnc, hcm, hg⟩ := Row.form hr'
  unfold maxLen at hcm
  rw [← hn] at hnc ⊢
  have HN := Lib.hid hn
  have HP := Lib.hid hp
  have HR := Lib.hid hr
  have HM := Lib.hid hm
  have HC1 := Lib.hid (HH.out.keep0 hm)
  have HG : Hid (0 < n → ∃ g, ad = some ⟨g, 0, none⟩ ∧ w.heap.size ≤ g ∧ ∀ j p, ks[j]? = some p → w1.cell? ⟨g, j, none⟩ = some (.string ⟨p.1.kk.toArray⟩)) := Lib.hid fun h0 => by
    obtain ⟨g, e, hf, _, hc⟩ := hg (by rw [← hn]; exact h0)
    exact ⟨g, e, hf, fun j p hj => hc j _ (by rw [List.getElem?_map, hj]; rfl)⟩
  clear hn hp hr hm hr' hg HD
  go_wp2_with fail
  go_loopw [13] (fun iv wr => ∃ (j : Nat) (L' : List (Ad × Int)), j ≤ n ∧ iv = .int .i64 (j : Int) ∧ ClkAt wr c b (cutT T (ks.take j)) L' ∧ Mod (fun k => k = b) w1 wr) (fun iv _ => n - (intOf iv).toNat)
  case atStart => exact ⟨0, L, Nat.zero_le _, rfl, by have := HC1.out; exact ⟨this.blk, this.mp, this.tl.nd, this.tl.gd, this.tl.look⟩, Mod.refl _ _⟩
  case round =>
    obtain ⟨j, L', hj, rfl, hc, hm⟩ := hrel
    have HC := Lib.hid hc
    have HMW := Lib.hid hm
    clear hc hm
    by_cases hlt : j < n
    · obtain ⟨p, hpj⟩ : ∃ p, ks[j]? = some p := ⟨_, List.getElem?_eq_getElem (by rw [← HN.out]; exact hlt)⟩
      obtain ⟨g, rfl, hgw, hcell⟩ := HG.out (by omega)
      have hpg : p.1.good = true := HH.out.tl.gd p (by have := HP.out.mem_iff.1 (List.mem_of_getElem? hpj); unfold dueL at this; exact (List.mem_filter.1 this).1)
      have x0 : wr.cell? ⟨g, j, none⟩ = some (.string ⟨p.1.kk.toArray⟩) := HMW.out.cell (fun e => by have h1 := HH.out.mp.lt; have h2 : g = b := e; omega) (hcell j p hpj)
      have c0 : wr.cell? ⟨c, 0, none⟩ = some (.map (some b)) := HC.out.blk.cell rfl
      have HPJ := Lib.hid hpj
      have HPG := Lib.hid hpg
      have HGD : Hid (mdelS (enm L') p.1.kk = enm (adel L' p.1)) := Lib.hid (mdel_enm hpg HC.out.tl.gd)
      clear hcell hpj hpg
      go_wp2_with (first | (refine wpList_plain rfl fun K hK => wp_delete_ms (k := p.1.kk) Tryz.underlying130 Tryz.underlying9 rfl rfl rfl HC.out.mp fun w' h1 h2 => hK _ _ ?_; have H1 := Lib.hid h1; have H2 := Lib.hid h2; clear h1 h2))
      go_roundw
      case rel => exact ⟨j + 1, adel L' p.1, by omega, by go_num, ⟨HC.out.blk.keep H2.out fun e => HC.out.ne e.symm, by have := H1.out; rwa [HGD.out] at this, by rw [cutT_take HPJ.out]; exact HC.out.tl.del p.1⟩, HMW.out.trans H2.out fun k hk => .inl hk⟩
      case measure => simp [intOf]; omega
    · obtain rfl : j = n := by omega
      go_wp2
      go_ret
      refine ⟨_, ks, L', rfl, HP.out, ?_, ?_, (HM.out.mono fun _ f => f.elim).trans HMW.out fun k hk => .inl hk⟩
      · have h1 := HR.out
        unfold RowS at h1 ⊢
        rw [← HN.out] at h1 ⊢
        exact h1.keep HMW.out fun k hk e => by have := HH.out.mp.lt; have h3 : k = b := e; omega
      · have := HC.out
        rwa [HN.out, List.take_length, cutT_due HH.out.tl HP.out] at this
end Go.Proofs.YtcccdlmngddalaaGreat
