/- Rows: elements written, cut short, cleared; s[:k] and s[k:] of a slice that can be read. -/
import Derived.Test.YtcccdlmngddalaaGreatApR
import Derived.Test.YtcccdlmngddalaaGreatBldS
set_option linter.unusedVariables false
set_option linter.unusedSimpArgs false
namespace Go.Proofs.YtcccdlmngddalaaGreat
open Go.RowKit
theorem exec_load_blk {P : Program} {ev : Operand → Value} {op : Oper} (ty : TypeId) (x : Operand) (ho : op.op = .load ty x) (g o : Nat) (hx : ev x = .pointer (some ⟨g, o, none⟩)) (t : TypeId) (cur cs : List Value) (d : TypeDesc) (w : World) (hg : Blk w g t cur) (hcs : (cur.drop o).take cs.length = cs)
    (hu : P.underlying ty = some d) (hd : d.isRow = true) (hi : (P.info? ty).map (·.size) = some cs.length) : (execOp ev op).run P w = .ok (.value (.agg cs.toArray)) w :=
  exec_load_mid ty x ho g o hx cs d w (hcs ▸ hg.range o cs.length) hu hd hi
def hiV : Value → Nat → Value
  | .slice ad _ cap, k => .slice (if cap = 0 then ad else ad.map (·.add 0)) k cap
  | v, _ => v
def loV (sz : Nat) : Value → Nat → Value
  | .slice ad n cap, k => .slice (if cap = k then ad else ad.map (·.add (k * sz))) (n - k) (cap - k)
  | v, _ => v
theorem Reads.hi {w : World} {v : Value} {n : Nat} {xs : List Value} (h : Reads w v n xs) (k sz : Nat) (hk : k ≤ n) : Reads w (hiV v k) k (xs.take (k * sz)) := by
  obtain ⟨ad, cap, rfl, h1, h2, h3⟩ := h
  refine ⟨_, cap, rfl, by omega, h2, fun h0 => ?_⟩
  obtain ⟨g, o, rfl, h4⟩ := h3 (by omega)
  refine ⟨g, o, by rw [if_neg (by omega)]; simp [addr_add], fun i u hu => h4 i u ?_⟩
  rw [List.getElem?_take] at hu
  split at hu
  · exact hu
  · cases hu
theorem Reads.lo {w : World} {v : Value} {n : Nat} {xs : List Value} (h : Reads w v n xs) (k sz : Nat) (hk : k ≤ n) : Reads w (loV sz v k) (n - k) (xs.drop (k * sz)) := by
  obtain ⟨ad, cap, rfl, h1, h2, h3⟩ := h
  refine ⟨_, cap - k, rfl, by omega, by omega, fun h0 => ?_⟩
  obtain ⟨g, o, rfl, h4⟩ := h3 (by omega)
  refine ⟨g, o + k * sz, by rw [if_neg (by omega)]; simp [addr_add], fun i u hu => ?_⟩
  rw [List.getElem?_drop] at hu
  have := h4 _ u hu
  rwa [← Nat.add_assoc] at this
theorem exec_slice_hi {P : Program} {ev : Operand → Value} {op : Oper} {t e : TypeId} {z : Value} {size bytes : Nat} (E : Elem P t e z size bytes) {x hi : Operand} (ho : op.op = .slice t x none (some hi) none) {v : Value} {n : Nat} {xs : List Value} {w0 : World} (hr : Reads w0 v n xs) (ex : ev x = v) (k : Nat) (eh : ev hi = .int .i64 (k : Int)) (hk : k ≤ n) (w : World) :
    (execOp ev op).run P w = .ok (.value (hiV v k)) w := by
  obtain ⟨i, hi', hz, hsz, hby⟩ := E.hi
  obtain ⟨ad, cap, rfl, h1, h2, h3⟩ := hr
  have hkc : k ≤ cap := by omega
  simp [execOp, ho, ex, eh, Instr.sliceAt, Instr.slice, Instr.sliceBounds, Instr.sliceBound, asIntOf, run_underlying E.ht, sizeOf, typeInfo, hi', Result.andThen, hkc, hiV]
theorem exec_slice_lo {P : Program} {ev : Operand → Value} {op : Oper} {t e : TypeId} {z : Value} {size bytes : Nat} (E : Elem P t e z size bytes) {x lo : Operand} (ho : op.op = .slice t x (some lo) none none) {v : Value} {n : Nat} {xs : List Value} {w0 : World} (hr : Reads w0 v n xs) (ex : ev x = v) (k : Nat) (el : ev lo = .int .i64 (k : Int)) (hk : k ≤ n) (w : World) :
    (execOp ev op).run P w = .ok (.value (loV size v k)) w := by
  obtain ⟨i, hi', hz, hsz, hby⟩ := E.hi
  obtain ⟨ad, cap, rfl, h1, h2, h3⟩ := hr
  simp [execOp, ho, ex, el, Instr.sliceAt, Instr.slice, Instr.sliceBounds, Instr.sliceBound, asIntOf, run_underlying E.ht, sizeOf, typeInfo, hi', Result.andThen, hk, loV, hsz]
theorem splice_take {α : Type} (L : List α) (m off : Nat) (cs : List α) (h : off + cs.length ≤ m) (hm : m ≤ L.length) : (splice L off cs).take m = splice (L.take m) off cs := by
  unfold splice
  have e1 : (L.take off).length = off := by rw [List.length_take]; omega
  rw [List.take_append, e1, List.take_append, List.take_take, List.take_take, List.drop_take, List.take_of_length_le (l := cs) (by omega), show min m off = off by omega, show min off m = off by omega, show m - off - cs.length = m - (off + cs.length) by omega]
section
variable {P : Program}
theorem run_storeAt_rowK {w : World} {f : Nat → Prop} {e : TypeId} {sz n : Nat} {v : Value} {xs : List Value} (hr : Row w f e sz v n xs) (ty : TypeId) (g off : Nat) (cs : List Value) (hg : v.ownBlock = some g) (hfit : off + cs.length ≤ xs.length) (hi : (P.info? ty).map (·.size) = some cs.length) (h1 : ∀ u ∈ cs, u.oneCell' = true) :
    ∃ w', (Instr.storeAt ty (.pointer (some ⟨g, off, none⟩)) (.agg cs.toArray)).run P w = .ok () w' ∧ Row w' f e sz v n (splice xs off cs) ∧ Mod (fun k => k = g) w w' := by
  obtain ⟨⟨hl, h1'⟩, h2⟩ := hr
  rcases h1' with ⟨rfl, _⟩ | ⟨g', cap, cur, rfl, hb, hh, hn, hc, hs, ht⟩
  · simp [Value.ownBlock] at hg
  · simp [Value.ownBlock] at hg
    subst hg
    have hB : Blk w g' e cur.toList := by unfold Blk; rw [Array.toArray_toList]; exact hh
    have hle : n * sz ≤ cur.toList.length := by rw [← hl, ← ht]; simp; omega
    have hfit' : off + cs.length ≤ cur.toList.length := by omega
    refine ⟨_, run_storeAt_blk (P := P) ty g' off e cur.toList cs hB hfit' hi h1, ⟨⟨by rw [length_splice _ _ _ hfit, hl], .inr ⟨g', cap, (splice cur.toList off cs).toArray, rfl, hb, blk_setRow hB _, hn, hc, by have := length_splice cur.toList off cs hfit'; simp at this ⊢; omega, ?_⟩⟩, h2⟩, (Mod.refl (fun k => k = g') w).setRow (.inl rfl) _⟩
    show (splice cur.toList off cs).take (n * sz) = splice xs off cs
    rw [splice_take _ _ _ _ (by omega) hle, ht]
theorem wp_store_rowK {w : World} {o : Oper} {a : Act} {K : Act → World → Prop} {Q : Exit → Act → World → Prop} (ty : TypeId) (x y : Operand) (ho : o.op = .store ty x y) {f : Nat → Prop} {e : TypeId} {sz n : Nat} {v : Value} {xs : List Value} (hr : Row w f e sz v n xs) (g off : Nat) (cs : List Value)
    (hx : a.eval x = .pointer (some ⟨g, off, none⟩)) (hy : a.eval y = .agg cs.toArray) (hg : v.ownBlock = some g) (hfit : off + cs.length ≤ xs.length) (hi : (P.info? ty).map (·.size) = some cs.length) (h1 : ∀ u ∈ cs, u.oneCell' = true)
    (h : ∀ w', Hid (Row w' f e sz v n (splice xs off cs)) → Hid (Mod (fun k => k = g) w w') → K (a.put o.dst undef) w') : o.wp P a w K Q := by
  obtain ⟨w', hrun, h2, h3⟩ := run_storeAt_rowK (P := P) hr ty g off cs hg hfit hi h1
  unfold Oper.wp execOp
  simp only [ho, hx, hy, Sem.run_bind, Sem.run_pure, hrun, Result.andThen_ok]
  exact h _ (Lib.hid h2) (Lib.hid h3)
theorem wpList_store_rowK {w : World} {ops : Array Oper} {rest : List Oper} {o : Oper} {a : Act} {Q : Exit → Act → World → Prop} (hgd : o.guard = none) (ty : TypeId) (x y : Operand) (ho : o.op = .store ty x y) {f : Nat → Prop} {e : TypeId} {sz n : Nat} {v : Value} {xs : List Value} (hr : Row w f e sz v n xs) (g off : Nat) (cs : List Value)
    (hx : a.eval x = .pointer (some ⟨g, off, none⟩)) (hy : a.eval y = .agg cs.toArray) (hg : v.ownBlock = some g) (hfit : off + cs.length ≤ xs.length) (hi : (P.info? ty).map (·.size) = some cs.length) (h1 : ∀ u ∈ cs, u.oneCell' = true)
    (h : ∀ w', Hid (Row w' f e sz v n (splice xs off cs)) → Hid (Mod (fun k => k = g) w w') → wpList P ops Q rest (a.put o.dst undef) w') : wpList P ops Q (o :: rest) a w :=
  wpList_plain hgd fun K hK => wp_store_rowK ty x y ho hr g off cs hx hy hg hfit hi h1 fun w' h2 h3 => hK _ _ (h w' h2 h3)
theorem Row.cut {w : World} {f : Nat → Prop} {e : TypeId} {sz n : Nat} {v : Value} {xs : List Value} (hr : Row w f e sz v n xs) (k : Nat) (hk : k ≤ n) : Row w f e sz (hiV v k) k (xs.take (k * sz)) := by
  obtain ⟨⟨hl, h1'⟩, h2⟩ := hr
  have hkn : k * sz ≤ n * sz := Nat.mul_le_mul_right _ hk
  rcases h1' with ⟨rfl, rfl⟩ | ⟨g, cap, cur, rfl, hb, hh, hn, hc, hs, ht⟩
  · obtain rfl : k = 0 := by omega
    exact ⟨⟨by simp, .inl ⟨rfl, by simp⟩⟩, fun g hg => by simp [hiV, Value.ownBlock] at hg⟩
  · have e1 : hiV (.slice (some ⟨g, 0, none⟩) n cap) k = .slice (some ⟨g, 0, none⟩) k cap := by
      simp only [hiV]
      split <;> simp [addr_add]
    rw [e1]
    refine ⟨⟨by rw [List.length_take]; omega, .inr ⟨g, cap, cur, rfl, hb, hh, by omega, hc, hs, ?_⟩⟩, fun x hx => h2 x (by simpa [Value.ownBlock] using hx)⟩
    rw [← ht, List.take_take]
    congr 1
    omega
theorem run_clear_lo {w : World} {f : Nat → Prop} {t e ty : TypeId} {z : Value} {sz bytes n : Nat} {v : Value} {xs : List Value} (E : Elem P t e z sz bytes) (hz : ∀ u ∈ z.cells.toList, u.oneCell' = true) (hr : Row w f e sz v n xs) (k : Nat) (hk : k ≤ n) :
    ∃ w', (Builtin.clear_ #[t] ty #[loV sz v k]).run P w = .ok (.tuple #[]) w' ∧ Row w' f e sz (hiV v k) k (xs.take (k * sz)) ∧ Mod (fun q => v.ownBlock = some q) w w' := by
  have hcut := hr.cut k hk
  obtain ⟨i, hi, hz', hsz, hby⟩ := E.hi
  obtain ⟨⟨hl, h1'⟩, h2⟩ := hr
  have hkn : k * sz ≤ n * sz := Nat.mul_le_mul_right _ hk
  rcases h1' with ⟨rfl, rfl⟩ | ⟨g, cap, cur, rfl, hb, hh, hn, hc, hs, ht⟩
  · refine ⟨w, ?_, hcut, Mod.refl _ _⟩
    simp only [loV]
    split <;> simp [Builtin.clear_, run_underlying E.ht, Result.andThen]
  · by_cases h0 : n - k = 0
    · refine ⟨w, ?_, hcut, Mod.refl _ _⟩
      simp only [loV, h0]
      split <;> simp [Builtin.clear_, run_underlying E.ht, Result.andThen]
    · obtain ⟨m, hm⟩ : ∃ m, n - k = m + 1 := ⟨n - k - 1, by omega⟩
      have e1 : loV sz (.slice (some ⟨g, 0, none⟩) n cap) k = .slice (some ⟨g, k * sz, none⟩) (m + 1) (cap - k) := by
        simp only [loV]
        rw [if_neg (by omega), hm]
        simp [addr_add]
      have hzl : (Builtin.zeroCells z.cells (m + 1)).toList.length = (m + 1) * sz := by simp [size_zeroCells, E.hz]
      have hzo : ∀ u ∈ (Builtin.zeroCells z.cells (m + 1)).toList, u.oneCell' = true := fun u hu => by
        unfold Builtin.zeroCells at hu
        simp at hu
        obtain ⟨j, hj, rfl⟩ := hu
        have hpos : 0 < z.cells.size := by
          rcases Nat.eq_zero_or_pos z.cells.size with h | h
          · rw [h] at hj; simp at hj
          · exact h
        have hlt := Nat.mod_lt j hpos
        refine hz _ ?_
        rw [getElem!_pos z.cells _ hlt]
        simp
      have hfit : k * sz + 0 + (Builtin.zeroCells z.cells (m + 1)).toList.length ≤ cur.size := by
        rw [hzl, hs, Nat.add_zero, ← Nat.add_mul]
        exact Nat.mul_le_mul_right _ (by omega)
      have hst := run_storeCells_at P g (k * sz) e (Builtin.zeroCells z.cells (m + 1)).toList 0 cur w hh hfit hzo
      have h3 : (zeroValue e).run P w = .ok z w := by simp [zeroValue, typeInfo, hi, hz', Result.andThen]
      have hrun : (Builtin.clear_ #[t] ty #[loV sz (.slice (some ⟨g, 0, none⟩) n cap) k]).run P w = ((storeCells ⟨g, k * sz, none⟩ (Builtin.zeroCells z.cells (m + 1)).toList).run P w).andThen fun _ w => .ok (.tuple #[]) w := by
        rw [e1]
        simp [Builtin.clear_, Sem.run_bind, run_underlying E.ht, h3, Result.andThen]
      rw [hst] at hrun
      refine ⟨_, hrun, ?_, ?_⟩
      · rw [show hiV (.slice (some ⟨g, 0, none⟩) n cap) k = .slice (some ⟨g, 0, none⟩) k cap by simp only [hiV]; split <;> simp [addr_add]]
        refine ⟨⟨by rw [List.length_take]; omega, .inr ⟨g, cap, _, rfl, hb, setRow_heap w g cur _ e _ hh, by omega, hc, ?_, ?_⟩⟩, fun x hx => h2 x (by simpa [Value.ownBlock] using hx)⟩
        · have h9 := hfit
          rw [Nat.add_zero] at h9
          simp only [List.size_toArray, List.length_append, List.length_take, List.length_drop, Nat.add_zero, Array.length_toList] at h9 ⊢
          omega
        · rw [Nat.add_zero, List.append_assoc, List.take_append_of_le_length (by rw [List.length_take, Array.length_toList]; rw [Nat.add_zero] at hfit; omega), List.take_take, ← ht, List.take_take]
          congr 1
          omega
      · exact Mod.setRow (g := g) (Mod.refl (fun q => (Value.slice (some ⟨g, 0, none⟩) n cap).ownBlock = some q) w) (.inl rfl) _
theorem wpList_clear_lo {w : World} {ops : Array Oper} {rest : List Oper} {o : Oper} {a : Act} {Q : Exit → Act → World → Prop} (hgd : o.guard = none) {f : Nat → Prop} {t e : TypeId} {z : Value} {sz bytes n : Nat} {v : Value} {xs : List Value} (E : Elem P t e z sz bytes) (x : Operand)
    (ho : o.op = .call { callee := .builtin .clear, args := #[x], argTypes := #[t] }) (hz : ∀ u ∈ z.cells.toList, u.oneCell' = true) (hr : Row w f e sz v n xs) (k : Nat) (hk : k ≤ n) (hx : a.eval x = loV sz v k)
    (h : ∀ w', Hid (Row w' f e sz (hiV v k) k (xs.take (k * sz))) → Hid (Mod (fun q => v.ownBlock = some q) w w') → wpList P ops Q rest (a.put o.dst (.tuple #[])) w') : wpList P ops Q (o :: rest) a w := by
  refine wpList_plain hgd fun K hK => ?_
  obtain ⟨w', hrun, h2, h3⟩ := run_clear_lo (P := P) (ty := o.type) E hz hr k hk
  unfold Oper.wp execOp
  simp only [ho, resolve, invoke, builtin, Sem.run_bind, Sem.run_pure, Result.andThen_ok, List.map_toArray, List.map_cons, List.map_nil, hx, hrun]
  exact hK _ _ (h w' (Lib.hid h2) (Lib.hid h3))
theorem results_blk {w : World} {fn : Func} {p : Tmp} {ty : TypeId} {d : TypeDesc} (h : fn.results = #[.cell p ty]) (tmps : Array Value) (g : Nat) (t : TypeId) (cs : List Value) (hp : tmps.getD p undef = .pointer (some ⟨g, 0, none⟩))
    (hg : Blk w g t cs) (hu : P.underlying ty = some d) (hd : d.isRow = true) (hi : (P.info? ty).map (·.size) = some cs.length) : (results fn tmps).run P w = .ok (.agg cs.toArray) w := by
  have hl := run_loadVar_mid (P := P) w g 0 ty cs d (rangeOf hg) hu hd hi
  have ha : (asAddr (.pointer (some ⟨g, 0, none⟩))).run P w = .ok ⟨g, 0, none⟩ w := rfl
  simp only [results, h]
  simp only [Array.getD_eq_getD_getElem?] at hp
  simp [Sem.run_bind, hp, ha, Result.andThen, hl]
end
end Go.Proofs.YtcccdlmngddalaaGreat
