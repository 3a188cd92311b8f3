/- Maps whose key is a row's place (a struct with an address): what a key is, what a look-up and a store of a new key do. -/
import Derived.Test.YtegjamjognpdkaaGreatOfP
import Derived.Test.YtegjamjognpdkaaGreatMap
import Derived.WideKeyRuns
namespace Go.Proofs.YtegjamjognpdkaaGreat
open Go.RowKit Go.Op Go.MapKept
set_option linter.unusedVariables false
set_option linter.unusedSimpArgs false
theorem run_all_ok {P : Program} {w : World} {α : Type} : ∀ (l : List α) (body : α → PUnit → Sem (ForInStep PUnit)), (∀ a ∈ l, (body a ⟨⟩).run P w = .ok (.yield ⟨⟩) w) → (forIn l (⟨⟩ : PUnit) body).run P w = .ok ⟨⟩ w
  | [], _, _ => by simp
  | a :: l, body, h => by
    rw [List.forIn_cons, Sem.run_bind, h a List.mem_cons_self, Result.andThen_ok]
    exact run_all_ok l body fun b hb => h b (List.mem_cons_of_mem _ hb)
theorem run_checkKey_int {P : Program} {t : TypeId} {k k' : IntKind} (ht : P.underlying t = some (.int k')) (em : Bool) (n : Nat) (x : Int) (w : World) : (Instr.checkKey em (n + 1) t (.int k x)).run P w = .ok () w := by
  simp [Instr.checkKey, run_underlying ht]
theorem run_checkKey_bool {P : Program} {t : TypeId} (ht : P.underlying t = some .bool) (em : Bool) (n : Nat) (x : Bool) (w : World) : (Instr.checkKey em (n + 1) t (.bool x)).run P w = .ok () w := by
  simp [Instr.checkKey, run_underlying ht]
theorem run_checkKey_arr {P : Program} {t e : TypeId} {k k' : IntKind} (xs : List Int) (len : Nat) (ht : P.underlying t = some (.array len e)) (he : P.underlying e = some (.int k')) (hs : ∀ w, (sizeOf e).run P w = .ok 1 w) (hagg : ∀ w, (isAgg e).run P w = .ok false w) (hx : xs.length = len) (em : Bool) (n : Nat) (w : World) :
    (Instr.checkKey em (n + 2) t (.agg (xs.map (Value.int k)).toArray)).run P w = .ok () w := by
  rw [Instr.checkKey]
  simp only [Sem.run_bind, run_underlying ht, Result.andThen_ok, Std.Legacy.Range.forIn_eq_forIn_range', Std.Legacy.Range.size, Nat.sub_zero, Nat.add_sub_cancel, Nat.div_one]
  have := run_all_ok (P := P) (w := w) (List.range' 0 len) (fun i _ => do
      let a ← Instr.checkKey em (n + 1) e (← part e (xs.map (Value.int k)).toArray (i * (← sizeOf e)))
      pure (ForInStep.yield PUnit.unit)) fun i hi => by
    have hi : i < xs.length := by
      simp [List.mem_range'] at hi
      omega
    simp only [Sem.run_bind, hs, Result.andThen_ok, Nat.mul_one, run_part_int hagg xs i hi, run_checkKey_int he, Sem.run_pure]
  first | exact this | simpa using this | (simp only [Sem.run_bind, this]; rfl)
section
variable {P : Program} {t ta tb e : TypeId} {k' : IntKind}
theorem run_checkKey_addr (ht : P.underlying t = some (.struct #[{ name := "V6", type := tb, offset := 0, embedded := false, tag := "", pkgPath := "", byteOffset := 0 }, { name := "B", type := ta, offset := 1, embedded := false, tag := "", pkgPath := "", byteOffset := 1 }]))
    (hta : P.underlying ta = some (.array 16 e)) (htb : P.underlying tb = some .bool) (hte : P.underlying e = some (.int k'))
    (hs : ∀ w, (sizeOf e).run P w = .ok 1 w) (hagg : ∀ w, (isAgg e).run P w = .ok false w) (hsa : ∀ w, (sizeOf ta).run P w = .ok 16 w) (haa : ∀ w, (isAgg ta).run P w = .ok true w) (hab : ∀ w, (isAgg tb).run P w = .ok false w)
    (v : Bool) (xs : List Int) (hx : xs.length = 16) (em : Bool) (d : Nat) (w : World) : (Instr.checkKey em (d + 3) t (.agg (adrC v xs).toArray)).run P w = .ok () w := by
  have p0 : (part tb (adrC v xs).toArray 0).run P w = .ok (.bool v) w := by
    simp [part, Sem.run_bind, hab, Result.andThen, adrC]
  have p1 : (part ta (adrC v xs).toArray 1).run P w = .ok (.agg (xs.map (Value.int .u8)).toArray) w := by
    have := adr_tail v xs hx
    simp only [part, Sem.run_bind, haa, Result.andThen_ok, if_true, hsa, Sem.run_pure, Nat.reduceAdd, this]
  rw [Instr.checkKey]
  simp [run_underlying ht, Sem.run_bind, p0, p1, run_checkKey_bool htb, run_checkKey_arr xs 16 hta hte hs hagg hx, Result.andThen]
end
def spotC (r : TRow) : List Value := .int .i64 r.vlan :: (adrC r.v6 r.b ++ [.int .i64 r.root])
def spotV (r : TRow) : Value := .agg (spotC r).toArray
def sameK (x r : TRow) : Bool := decide (x.vlan = r.vlan ∧ (x.v6 = r.v6 ∧ x.b = r.b) ∧ x.root = r.root)
section
variable {P : Program} {ts t ti : TypeId} {k' : IntKind}
variable (hts : P.underlying ts = some (.struct #[{ name := "vlan", type := ti, offset := 0, embedded := false, tag := "", pkgPath := "acequia/table", byteOffset := 0 }, { name := "group", type := t, offset := 1, embedded := false, tag := "", pkgPath := "acequia/table", byteOffset := 8 }, { name := "root", type := ti, offset := 18, embedded := false, tag := "", pkgPath := "acequia/table", byteOffset := 32 }]))
  (hti : P.underlying ti = some (.int k')) (hai : ∀ w, (isAgg ti).run P w = .ok false w) (hst : ∀ w, (sizeOf t).run P w = .ok 17 w) (hat : ∀ w, (isAgg t).run P w = .ok true w)
include hai hst hat
theorem spot_parts (r : TRow) (hr : r.b.length = 16) (w : World) :
    (part ti (spotC r).toArray 0).run P w = .ok (.int .i64 r.vlan) w ∧ (part t (spotC r).toArray 1).run P w = .ok (.agg (adrC r.v6 r.b).toArray) w ∧ (part ti (spotC r).toArray 18).run P w = .ok (.int .i64 r.root) w := by
  have hl : (adrC r.v6 r.b).length = 17 := by simp [adrC, hr]
  refine ⟨?_, ?_, ?_⟩
  · simp [part, Sem.run_bind, hai, Result.andThen, spotC]
  · have e : Array.extract (spotC r).toArray 1 18 = (adrC r.v6 r.b).toArray := by
      unfold spotC
      simp [List.extract_toArray, List.extract, hl]
      try rw [List.take_left' (by simp [adrC, hr])]
    simp only [part, Sem.run_bind, hat, Result.andThen_ok, if_true, hst, Sem.run_pure, Nat.reduceAdd, e]
  · have e : (spotC r)[18]? = some (.int .i64 r.root) := by
      unfold spotC
      simp [adrC, hr]
    simp [part, Sem.run_bind, hai, Result.andThen, e]
include hts hti
theorem run_checkKey_spotP (r : TRow) (hr : r.b.length = 16) (em : Bool) (d : Nat) (w : World) (hA : (Instr.checkKey em (d + 3) t (.agg (adrC r.v6 r.b).toArray)).run P w = .ok () w) : (Instr.checkKey em (d + 4) ts (spotV r)).run P w = .ok () w := by
  obtain ⟨p0, p1, p2⟩ := spot_parts hai hst hat r hr w
  unfold spotV
  rw [Instr.checkKey]
  simp [run_underlying hts, Sem.run_bind, p0, p1, p2, run_checkKey_int hti, hA, Result.andThen]
theorem eqIn_spotP (x r : TRow) (hx : x.b.length = 16) (hr : r.b.length = 16) (d : Nat) (w : World) (hsd : P.stoodInHeld ts = false)
    (hA : (Op.equalIn (d + 3) t (.agg (adrC x.v6 x.b).toArray) (.agg (adrC r.v6 r.b).toArray)).run P w = .ok (decide (x.v6 = r.v6 ∧ x.b = r.b)) w) :
    (Op.equalIn (d + 4) ts (spotV x) (spotV r)).run P w = .ok (sameK x r) w := by
  obtain ⟨p0, p1, p2⟩ := spot_parts hai hst hat x hx w
  obtain ⟨q0, q1, q2⟩ := spot_parts hai hst hat r hr w
  have hf : P.fieldsOf ts = #[{ name := "vlan", type := ti, offset := 0, embedded := false, tag := "", pkgPath := "acequia/table", byteOffset := 0 }, { name := "group", type := t, offset := 1, embedded := false, tag := "", pkgPath := "acequia/table", byteOffset := 8 }, { name := "root", type := ti, offset := 18, embedded := false, tag := "", pkgPath := "acequia/table", byteOffset := 32 }] := by
    unfold Program.fieldsOf
    rw [hts]
  unfold spotV sameK
  rw [run_equalIn_agg w (d + 3) ts _ _ (by rw [hf]; exact hts) hsd, hf]
  simp only [Op.eqFields, ne_eq, String.reduceEq, not_false_eq_true, if_true, Sem.run_bind, p0, q0, Result.andThen_ok, run_equalIn_int w (d + 2) _ _ _ _ _ hti]
  by_cases h : x.vlan = r.vlan
  · by_cases h' : x.v6 = r.v6 ∧ x.b = r.b
    · rw [decide_eq_true h'] at hA
      rw [show decide (x.vlan = r.vlan ∧ (x.v6 = r.v6 ∧ x.b = r.b) ∧ x.root = r.root) = decide (x.root = r.root) from by simp [h, h']]
      by_cases h3 : x.root = r.root
      · simp [h, p1, q1, p2, q2, hA, h3, run_equalIn_int w (d + 2) _ _ _ _ _ hti]
      · simp [h, p1, q1, p2, q2, hA, h3, run_equalIn_int w (d + 2) _ _ _ _ _ hti]
    · rw [decide_eq_false h'] at hA
      have h2 : ¬ (x.vlan = r.vlan ∧ (x.v6 = r.v6 ∧ x.b = r.b) ∧ x.root = r.root) := fun a => h' a.2.1
      rw [decide_eq_false h2]
      simp [h, p1, q1, p2, q2, hA]
  · simp [h]
end
theorem spot_stood : Tryz.prog.stoodInHeld 110 = false := by kernel_rfl
theorem run_checkKey_spot (r : TRow) (hr : r.b.length = 16) (em : Bool) (w : World) : (Instr.checkKey em 10000 110 (spotV r)).run Tryz.prog w = .ok () w :=
  run_checkKey_spotP Tryz.underlying110 Tryz.underlying3 Tryz.isAgg3 Tryz.sizeOf25 Tryz.isAgg25 r hr em 9996 w
    (run_checkKey_addr Tryz.underlying25 Tryz.underlying23 Tryz.underlying4 Tryz.underlying5 Tryz.sizeOf5 Tryz.isAgg5 Tryz.sizeOf23 Tryz.isAgg23 Tryz.isAgg4 r.v6 r.b hr em 9996 w)
theorem eq_spot (x r : TRow) (hx : x.b.length = 16) (hr : r.b.length = 16) (w : World) : (Op.equal 110 (spotV x) (spotV r)).run Tryz.prog w = .ok (sameK x r) w :=
  eqIn_spotP Tryz.underlying110 Tryz.underlying3 Tryz.isAgg3 Tryz.sizeOf25 Tryz.isAgg25 x r hx hr 9996 w spot_stood (eqIn_adr w 9996 x.v6 r.v6 x.b r.b hx hr)
/-- a map that tells of each row where it is -/
def entsR : Nat → List TRow → List MapEntry
  | _, [] => []
  | k, r :: l => { key := spotV r, val := .int .i64 (k : Int), born := k } :: entsR (k + 1) l
def placeR (x : TRow) : List TRow → Option Nat
  | [] => none
  | r :: l => if sameK x r = true then some 0 else (placeR x l).map (· + 1)
theorem entsR_len : ∀ (l : List TRow) (k : Nat), (entsR k l).length = l.length
  | [], _ => rfl
  | r :: l, k => by simp [entsR, entsR_len l (k + 1)]
theorem entsR_snoc (r : TRow) : ∀ (l : List TRow) (k : Nat), entsR k (l ++ [r]) = entsR k l ++ [{ key := spotV r, val := .int .i64 ((k + l.length : Nat) : Int), born := k + l.length }]
  | [], k => by simp [entsR]
  | x :: l, k => by
    simp only [List.cons_append, entsR, entsR_snoc r l (k + 1), List.length_cons, List.cons.injEq, true_and]
    rw [show k + 1 + l.length = k + (l.length + 1) by omega]
theorem placeR_lt {x : TRow} : ∀ {l : List TRow} {i : Nat}, placeR x l = some i → i < l.length
  | [], _, h => by simp [placeR] at h
  | r :: l, i, h => by
    unfold placeR at h
    split at h
    · simp at h; subst h; simp
    · cases hp : placeR x l with
      | none => simp [hp] at h
      | some j =>
        have := placeR_lt hp
        simp [hp] at h
        simp
        omega
theorem run_findAsking_spot (x : TRow) (hx : x.b.length = 16) (w : World) : ∀ (l : List TRow) (k n : Nat), (∀ r ∈ l, r.b.length = 16) → (Instr.findAsking 110 (spotV x) (entsR k l) n).run Tryz.prog w = .ok ((placeR x l).map fun i => (n + i, .int .i64 ((k + i : Nat) : Int))) w
  | [], _, _, _ => by simp [entsR, Instr.findAsking, placeR]
  | r :: l, k, n, h => by
    simp only [entsR, Instr.findAsking, Sem.run_bind, eq_spot x r hx (h r List.mem_cons_self) w, Result.andThen_ok, placeR]
    cases hs : sameK x r with
    | true => simp
    | false =>
      have ih := run_findAsking_spot x hx w l (k + 1) (n + 1) fun y hy => h y (List.mem_cons_of_mem _ hy)
      simp only [Bool.false_eq_true, if_false, ih, Option.map_map, Function.comp_def]
      cases placeR x l with
      | none => rfl
      | some j => simp only [Option.map_some, Result.ok.injEq, Option.some.injEq, Prod.mk.injEq, Value.int.injEq, true_and, and_true]; refine ⟨?_, ?_⟩ <;> omega
theorem run_findKey_spot (x : TRow) (hx : x.b.length = 16) (w : World) (l : List TRow) (h : ∀ r ∈ l, r.b.length = 16) : (Instr.findKey 110 (spotV x) (entsR 0 l)).run Tryz.prog w = .ok ((placeR x l).map fun i => (i, .int .i64 (i : Int))) w := by
  rw [run_findKey_eq w (by rw [Tryz.underlying110]), run_findAsking_spot x hx w l 0 0 h]
  simp
/-- block b is that map -/
def SpM (w : World) (b : Nat) (l : List TRow) : Prop := w.heap[b]? = some (.map (entsR 0 l).toArray l.length)
theorem SpM.keep {w w' : World} {F : Nat → Prop} {b : Nat} {l : List TRow} (h : SpM w b l) (hm : Mod F w w') (hn : ¬ F b) : SpM w' b l := hm.keep h hn
theorem SpM.lt {w : World} {b : Nat} {l : List TRow} (h : SpM w b l) : b < w.heap.size := lt_of_block h
theorem exec_lookup_spot {o : Oper} {ev : Operand → Value} {m i : Operand} (ho : o.op = .lookup 78 m i true) {b : Nat} {x : TRow} (hm : ev m = .map (some b)) (hi : ev i = spotV x) (hx : x.b.length = 16) {w : World} {l : List TRow} (hl : ∀ r ∈ l, r.b.length = 16) (h : SpM w b l) :
    (execOp ev o).run Tryz.prog w = .ok (.value (.tuple #[.int .i64 (((placeR x l).getD 0 : Nat) : Int), .bool (placeR x l).isSome])) w := by
  have hk := run_findKey_spot x hx w l hl
  have hc := run_checkKey_spot x hx
  simp only [execOp, ho, hm, hi, Instr.lookup, Sem.run_bind, run_underlying Tryz.underlying78, Result.andThen_ok, MapKept.run_getObj_map h, hc, List.toList_toArray, hk, Sem.run_pure]
  cases placeR x l with
  | none => simp [Tryz.zeroValue3, Result.andThen]
  | some j => simp [Result.andThen]
/-- a new key -/
theorem wp_update_spot {o : Oper} {a : Act} {w : World} {K : Act → World → Prop} {Q : Exit → Act → World → Prop} {mo ko vo : Operand} (ho : o.op = .mapUpdate 78 mo ko vo) {b : Nat} {x : TRow} {l : List TRow} (hm : a.eval mo = .map (some b)) (hko : a.eval ko = spotV x) (hv : a.eval vo = .int .i64 (l.length : Int))
    (hx : x.b.length = 16) (hl : ∀ r ∈ l, r.b.length = 16) (hp : placeR x l = none) (h : SpM w b l)
    (hK : ∀ w', SpM w' b (l ++ [x]) → Mod (fun k => k = b) w w' → K (a.put o.dst undef) w') : o.wp Tryz.prog a w K Q := by
  have hk := run_findKey_spot x hx w l hl
  rw [hp] at hk
  have hc := run_checkKey_spot x hx
  have hrun : (Instr.mapUpdate 78 (.map (some b)) (spotV x) (.int .i64 (l.length : Int))).run Tryz.prog w = .ok () { w with heap := w.heap.setIfInBounds b (.map (entsR 0 (l ++ [x])).toArray (l ++ [x]).length) } := by
    simp [Instr.mapUpdate, run_underlying Tryz.underlying78, MapKept.run_getObj_map h, hc, hk, MapKept.run_setObj_map _ h, Result.andThen, entsR_snoc]
  obtain ⟨w', hw⟩ : ∃ w', w' = { w with heap := w.heap.setIfInBounds b (.map (entsR 0 (l ++ [x])).toArray (l ++ [x]).length) } := ⟨_, rfl⟩
  rw [← hw] at hrun
  unfold Oper.wp
  simp only [execOp, ho, hm, hko, hv, Sem.run_bind, hrun, Result.andThen_ok, Sem.run_pure]
  refine hK w' (by rw [hw]; exact (heap_set h).1) (by rw [hw]; exact ⟨rfl, rfl, rfl, by simp, fun k' _ hk' => (heap_set (o' := .map (entsR 0 (l ++ [x])).toArray (l ++ [x]).length) h).2 k' hk'⟩)
theorem list16 {α : Type} : ∀ (l : List α), l.length = 16 → ∃ a b c d e f g h i j k m n o p q, l = [a, b, c, d, e, f, g, h, i, j, k, m, n, o, p, q]
  | [a, b, c, d, e, f, g, h, i, j, k, m, n, o, p, q], _ => ⟨a, b, c, d, e, f, g, h, i, j, k, m, n, o, p, q, rfl⟩
theorem run_build_spotP {P : Program} {ts t ti : TypeId}
    (hts : P.underlying ts = some (.struct #[{ name := "vlan", type := ti, offset := 0, embedded := false, tag := "", pkgPath := "acequia/table", byteOffset := 0 }, { name := "group", type := t, offset := 1, embedded := false, tag := "", pkgPath := "acequia/table", byteOffset := 8 }, { name := "root", type := ti, offset := 18, embedded := false, tag := "", pkgPath := "acequia/table", byteOffset := 32 }]))
    (hz : ∀ w, (zeroValue ts).run P w = .ok (.agg (spotC ⟨0, false, List.replicate 16 0, 0, []⟩).toArray) w)
    (hsi : ∀ w, (sizeOf ti).run P w = .ok 1 w) (hst : ∀ w, (sizeOf t).run P w = .ok 17 w) (r : TRow) (hr : r.b.length = 16) (w : World) :
    (Instr.build ts #[(0, .int .i64 r.vlan), (1, .agg (adrC r.v6 r.b).toArray), (2, .int .i64 r.root)]).run P w = .ok (spotV r) w := by
  obtain ⟨vlan, v6, b, root, next⟩ := r
  obtain ⟨a, b, c, d, e, f, g, h, i, j, k, m, n, o, p, q, rfl⟩ := list16 b hr
  simp [Instr.build, Sem.run_bind, hz, run_underlying hts, hsi, hst, Instr.fill, Result.andThen, Value.cells, spotV, spotC, adrC]
theorem exec_build_spot {ev : Operand → Value} {op : Oper} {x y z : Operand} (ho : op.op = .build 110 #[(0, x), (1, y), (2, z)]) (r : TRow) (hr : r.b.length = 16) (ex : ev x = .int .i64 r.vlan) (ey : ev y = .agg (adrC r.v6 r.b).toArray) (ez : ev z = .int .i64 r.root) (w : World) :
    (execOp ev op).run Tryz.prog w = .ok (.value (spotV r)) w := by
  have h := run_build_spotP Tryz.underlying110 Tryz.zeroValue110 Tryz.sizeOf3 Tryz.sizeOf25 r hr w
  simp [execOp, ho, ex, ey, ez, h, Result.andThen]
end Go.Proofs.YtegjamjognpdkaaGreat
