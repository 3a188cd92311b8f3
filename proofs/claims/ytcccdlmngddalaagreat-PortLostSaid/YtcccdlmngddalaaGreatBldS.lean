/- A slice of one element that is laid. -/
import Derived.Test.YtcccdlmngddalaaGreatMem
set_option linter.unusedVariables false
set_option linter.unusedSimpArgs false
namespace Go.Proofs.YtcccdlmngddalaaGreat
open Go.RowKit
theorem foldl_set : ∀ (l : List Value) (k : Nat) (arr : Array Value), arr.size = k + l.length → (l.zipIdx k).foldl (fun cs x => cs.setIfInBounds x.snd x.fst) arr = (arr.toList.take k ++ l).toArray
  | [], k, arr, h => by
    simp only [List.zipIdx_nil, List.foldl_nil, List.append_nil]
    rw [List.take_of_length_le (by simpa using Nat.le_of_eq h), Array.toArray_toList]
  | a :: l, k, arr, h => by
    rw [List.length_cons] at h
    rw [List.zipIdx_cons, List.foldl_cons, foldl_set l (k + 1) _ (by simp; omega)]
    congr 1
    have hk : k < arr.toList.length := by simp; omega
    rw [Array.toList_setIfInBounds, List.take_add_one, List.take_set_of_le (Nat.le_refl _), List.append_assoc]
    congr 1
    have hk2 : k < arr.size := by simpa using hk
    simp [List.getElem?_set, hk2]
theorem run_buildSlice1 {P : Program} {t e : TypeId} {z : Value} {size bytes : Nat} (E : Elem P t e z size bytes) (cs : List Value) (hl : cs.length = size) (h0 : 0 < size) (hs : size ≤ 1000) (w : World) :
    (Instr.buildSlice t 1 #[(0, .agg cs.toArray)]).run P w = .ok (.slice (some ⟨w.heap.size, 0, none⟩) 1 1) (w.alloc (.cells cs.toArray e (0, 0))) := by
  obtain ⟨i, hi, hz, hsz, hby⟩ := E.hi
  have hne : ¬ size = 0 := by omega
  simp [Instr.buildSlice, run_underlying E.ht, sizeOf, typeInfo, hi, hsz, Instr.fill, zeroValue, hz, hl, E.hz, hne, Value.cells, foldl_set]
  rw [if_neg (by omega)]
  simp [newRow, newObj]
  rfl
theorem wpList_buildSlice1 {P : Program} {ops : Array Oper} {rest : List Oper} {o : Oper} {a : Act} {w : World} {Q : Exit → Act → World → Prop} {t e : TypeId} {z : Value} {size bytes : Nat} (E : Elem P t e z size bytes) (hgd : o.guard = none) (x : Operand) (ho : o.op = .buildSlice t 1 #[(0, x)]) (cs : List Value) (hx : a.eval x = .agg cs.toArray)
    (hl : cs.length = size) (h0 : 0 < size) (hs : size ≤ 1000) (h : wpList P ops Q rest (a.put o.dst (.slice (some ⟨w.heap.size, 0, none⟩) 1 1)) (w.alloc (.cells cs.toArray e (0, 0)))) : wpList P ops Q (o :: rest) a w :=
  wpList_plain hgd fun K hK => by
    have hr := run_buildSlice1 E cs hl h0 hs w
    unfold Oper.wp
    simp [execOp, ho, hx, hr, Result.andThen]
    exact hK _ _ h
end Go.Proofs.YtcccdlmngddalaaGreat
