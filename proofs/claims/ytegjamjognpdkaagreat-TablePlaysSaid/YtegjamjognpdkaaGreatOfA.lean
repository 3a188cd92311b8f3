/- A list of rows with one more in between: memory; s[:k] and s[k:] of a slice that can be read. -/
import Derived.Test.YtegjamjognpdkaaGreatCutC
import Derived.Test.YtegjamjognpdkaaGreatOfP
namespace Go.Proofs.YtegjamjognpdkaaGreat
open Go.RowKit
set_option linter.unusedVariables false
set_option linter.unusedSimpArgs false
theorem cellsR_append (sv : Nat → Value) : ∀ (a b : List TRow) (k : Nat), cellsR sv k (a ++ b) = cellsR sv k a ++ cellsR sv (k + a.length) b
  | [], b, k => by simp [cellsR]
  | r :: a, b, k => by
    rw [List.cons_append, cellsR, cellsR, cellsR_append sv a b (k + 1), List.append_assoc, show k + 1 + a.length = k + (r :: a).length by simp; omega]
theorem cellsR_shift (sv sv' : Nat → Value) : ∀ (l : List TRow) (k k' : Nat), (∀ i, i < l.length → sv (k + i) = sv' (k' + i)) → cellsR sv k l = cellsR sv' k' l
  | [], _, _, _ => rfl
  | r :: l, k, k', h => by
    rw [cellsR, cellsR, show sv k = sv' k' from h 0 (by simp), cellsR_shift sv sv' l (k + 1) (k' + 1) fun i hi => by have := h (i + 1) (by simp; omega); rw [show k + 1 + i = k + (i + 1) by omega, show k' + 1 + i = k' + (i + 1) by omega]; exact this]
def insV (sv : Nat → Value) (k : Nat) (u : Value) (j : Nat) : Value := if j < k then sv j else if j = k then u else sv (j - 1)
theorem cellsR_ins (sv : Nat → Value) (u : Value) (out : List TRow) (r : TRow) (k : Nat) (hk : k ≤ out.length) (hok : rowsOk out) :
    cellsR (insV sv k u) 0 (out.take k ++ r :: out.drop k) = (cellsR sv 0 out).take (k * 20) ++ r.c u ++ (cellsR sv 0 out).drop (k * 20) := by
  have hl : (out.take k).length = k := by rw [List.length_take]; omega
  have ht : (cellsR sv 0 (out.take k)).length = k * 20 := by rw [cellsR_len _ _ _ fun r hr => hok r (List.mem_of_mem_take hr), hl]
  have e0 : cellsR sv 0 out = cellsR sv 0 (out.take k) ++ cellsR sv k (out.drop k) := by
    have := cellsR_append sv (out.take k) (out.drop k) 0
    rw [List.take_append_drop, hl, Nat.zero_add] at this
    exact this
  rw [e0, List.take_left' ht, List.drop_left' ht, cellsR_append, cellsR, Nat.zero_add, hl, ← List.append_assoc]
  congr 1
  · congr 1
    · exact cellsR_ext _ _ _ _ fun i hi => by rw [hl] at hi; rw [Nat.zero_add]; unfold insV; rw [if_pos hi]
    · congr 1
      unfold insV
      rw [if_neg (by omega), if_pos rfl]
  · exact cellsR_shift _ _ _ _ _ fun i hi => by unfold insV; rw [if_neg (by omega), if_neg (by omega), show k + 1 + i - 1 = k + i by omega]
theorem RowsOwn.ins {w w' : World} {f f' : Nat → Prop} {v v' u : Value} {out : List TRow} {r : TRow} {sv : Nat → Value} {k n : Nat} (h : RowsOwn w f v out sv) (hk : k ≤ out.length) (hb : adrOk r.b) (hm : Mod (fun _ => False) w w') (hu : Row w f 3 1 u r.next.length (ints r.next)) (hf : ∀ q, f q → f' q) (hn : n = out.length + 1)
    (hrow : Row w' f' 28 20 v' n ((cellsR sv 0 out).take (k * 20) ++ r.c u ++ (cellsR sv 0 out).drop (k * 20))) : RowsOwn w' f' v' (out.take k ++ r :: out.drop k) (insV sv k u) := by
  have hl : (out.take k).length = k := by rw [List.length_take]; omega
  refine ⟨?_, fun x hx => ?_, fun i x hx => ?_⟩
  · rw [cellsR_ins sv u out r k hk h.ok, show (out.take k ++ r :: out.drop k).length = n by simp; omega]
    exact hrow
  · rcases List.mem_append.1 hx with hx | hx
    · exact h.ok x (List.mem_of_mem_take hx)
    · rcases List.mem_cons.1 hx with rfl | hx
      · exact hb
      · exact h.ok x (List.mem_of_mem_drop hx)
  · have keep : ∀ {v : Value} {m : Nat} {xs : List Value}, Row w f 3 1 v m xs → Row w' f' 3 1 v m xs := fun h => (h.keep hm fun _ _ f => f).mono hf
    unfold insV
    by_cases h1 : i < k
    · rw [if_pos h1]
      rw [List.getElem?_append_left (by omega), List.getElem?_take, if_pos h1] at hx
      exact keep (h.next i x hx)
    · rw [if_neg h1]
      rw [List.getElem?_append_right (by omega), hl] at hx
      by_cases h2 : i = k
      · subst h2
        simp at hx
        subst hx
        rw [if_pos rfl]
        exact keep hu
      · rw [if_neg h2]
        obtain ⟨j, rfl⟩ : ∃ j, i = k + (j + 1) := ⟨i - k - 1, by omega⟩
        rw [show k + (j + 1) - k = j + 1 by omega, List.getElem?_cons_succ, List.getElem?_drop] at hx
        rw [show k + (j + 1) - 1 = k + j by omega]
        exact keep (h.next (k + j) x hx)
def hiV : Value → Nat → Value
  | .slice ad _ cap, k => .slice (if cap = 0 then ad else ad.map (·.add 0)) k cap
  | v, _ => v
def loV (sz : Nat) : Value → Nat → Value
  | .slice ad n cap, k => .slice (if cap = k then ad else ad.map (·.add (k * sz))) (n - k) (cap - k)
  | v, _ => v
theorem Reads.hi {w : World} {v : Value} {n : Nat} {xs : List Value} (h : Reads w v n xs) (k sz : Nat) (hk : k ≤ n) : Reads w (hiV v k) k (xs.take (k * sz)) := by
  obtain ⟨ad, cap, rfl, h1, h2, h3⟩ := h
  refine ⟨_, cap, rfl, by omega, h2, fun h0 => ?_⟩
  obtain ⟨g, o, rfl, h4⟩ := h3 (by omega)
  refine ⟨g, o, by rw [if_neg (by omega)]; simp [addr_add], fun i u hu => h4 i u ?_⟩
  rw [List.getElem?_take] at hu
  split at hu
  · exact hu
  · cases hu
theorem Reads.lo {w : World} {v : Value} {n : Nat} {xs : List Value} (h : Reads w v n xs) (k sz : Nat) (hk : k ≤ n) : Reads w (loV sz v k) (n - k) (xs.drop (k * sz)) := by
  obtain ⟨ad, cap, rfl, h1, h2, h3⟩ := h
  refine ⟨_, cap - k, rfl, by omega, by omega, fun h0 => ?_⟩
  obtain ⟨g, o, rfl, h4⟩ := h3 (by omega)
  refine ⟨g, o + k * sz, by rw [if_neg (by omega)]; simp [addr_add], fun i u hu => ?_⟩
  rw [List.getElem?_drop] at hu
  have := h4 _ u hu
  rwa [← Nat.add_assoc] at this
theorem exec_slice_hi {P : Program} {ev : Operand → Value} {op : Oper} {t e : TypeId} {z : Value} {size bytes : Nat} (E : Elem P t e z size bytes) {x hi : Operand} (ho : op.op = .slice t x none (some hi) none) {v : Value} {n : Nat} {xs : List Value} {w0 : World} (hr : Reads w0 v n xs) (ex : ev x = v) (k : Nat) (eh : ev hi = .int .i64 (k : Int)) (hk : k ≤ n) (w : World) :
    (execOp ev op).run P w = .ok (.value (hiV v k)) w := by
  obtain ⟨i, hi', hz, hsz, hby⟩ := E.hi
  obtain ⟨ad, cap, rfl, h1, h2, h3⟩ := hr
  have hkc : k ≤ cap := by omega
  simp [execOp, ho, ex, eh, Instr.sliceAt, Instr.slice, Instr.sliceBounds, Instr.sliceBound, asIntOf, run_underlying E.ht, sizeOf, typeInfo, hi', Result.andThen, hkc, hiV]
theorem exec_slice_lo {P : Program} {ev : Operand → Value} {op : Oper} {t e : TypeId} {z : Value} {size bytes : Nat} (E : Elem P t e z size bytes) {x lo : Operand} (ho : op.op = .slice t x (some lo) none none) {v : Value} {n : Nat} {xs : List Value} {w0 : World} (hr : Reads w0 v n xs) (ex : ev x = v) (k : Nat) (el : ev lo = .int .i64 (k : Int)) (hk : k ≤ n) (w : World) :
    (execOp ev op).run P w = .ok (.value (loV size v k)) w := by
  obtain ⟨i, hi', hz, hsz, hby⟩ := E.hi
  obtain ⟨ad, cap, rfl, h1, h2, h3⟩ := hr
  simp [execOp, ho, ex, el, Instr.sliceAt, Instr.slice, Instr.sliceBounds, Instr.sliceBound, asIntOf, run_underlying E.ht, sizeOf, typeInfo, hi', Result.andThen, hk, loV, hsz]
theorem Blk.reads1 {w : World} {b : Nat} {t : TypeId} {cs : List Value} (h : Blk w b t cs) : Reads w (.slice (some ⟨b, 0, none⟩) 1 1) 1 cs :=
  ⟨_, 1, rfl, Nat.le_refl _, by unfold maxLen; omega, fun _ => ⟨b, 0, rfl, fun i u hu => by rw [Nat.zero_add]; exact h.cell hu⟩⟩
theorem wp_build0 {P : Program} {o : Oper} {a : Act} {w : World} {K : Act → World → Prop} {Q : Exit → Act → World → Prop} {t e : TypeId} {z : Value} {size bytes : Nat} (E : Elem P t e z size bytes) (ho : o.op = .buildSlice t 0 #[])
    (h : ∀ (W : World) (v : Value), Hid (Row W (fun q => w.heap.size ≤ q) e size v 0 []) → Hid (Mod (fun _ => False) w W) → K (a.put o.dst v) W) : o.wp P a w K Q := by
  obtain ⟨i, hi, hz, hsz, hby⟩ := E.hi
  have hr : (Instr.buildSlice t 0 #[]).run P w = .ok (.slice (some ⟨w.heap.size, 0, none⟩) 0 0) (w.alloc (.cells #[] e (0, 0))) := by
    simp [Instr.buildSlice, run_underlying E.ht, sizeOf, typeInfo, hi, Instr.fill, zeroValue, hz, newRow, newObj, Result.andThen, show (Array.range 0 : Array Nat) = #[] from by simp [Array.range]]
    rfl
  unfold Oper.wp
  simp [execOp, ho, hr, Result.andThen]
  exact h _ _ (Lib.hid (Row.empty w e size)) (Lib.hid ((Mod.refl _ _).alloc _))
theorem wp_build1H {P : Program} {o : Oper} {a : Act} {w : World} {K : Act → World → Prop} {Q : Exit → Act → World → Prop} {t e : TypeId} {z : Value} {size bytes : Nat} (E : Elem P t e z size bytes) (x : Operand) (ho : o.op = .buildSlice t 1 #[(0, x)]) (cs : List Value) (hx : a.eval x = .agg cs.toArray)
    (hl : cs.length = size) (h0 : 0 < size) (hs : size ≤ 1000) (h : ∀ (W : World) (b : Nat), Hid (Blk W b e cs) → w.heap.size ≤ b → Hid (Mod (fun _ => False) w W) → K (a.put o.dst (.slice (some ⟨b, 0, none⟩) 1 1)) W) : o.wp P a w K Q := by
  have hr := run_buildSlice1 E cs hl h0 hs w
  unfold Oper.wp
  simp [execOp, ho, hx, hr, Result.andThen]
  exact h _ _ (Lib.hid (Blk.new w e cs)) (Nat.le_refl _) (Lib.hid ((Mod.refl _ _).alloc _))
end Go.Proofs.YtegjamjognpdkaaGreat
