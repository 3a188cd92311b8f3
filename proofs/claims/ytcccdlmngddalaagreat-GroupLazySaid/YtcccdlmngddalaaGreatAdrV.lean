/- addr.Zero, Group, Good, Cmp, cmp.Compare, cmp.Or: contracts, whatever the addresses are. -/
import Derived.Test.YtcccdlmngddalaaGreatAdrC
import Derived.Test.YtcccdlmngddalaaGreatRdE
namespace Go.Proofs.YtcccdlmngddalaaGreat
open Go.RowKit
set_option linter.unusedVariables false
set_option linter.unusedSimpArgs false
theorem wpList_val {P : Program} {ops : Array Oper} {rest : List Oper} {o : Oper} {a : Act} {w : World} {Q : Exit → Act → World → Prop} (hgd : o.guard = none) (v : Value) (hr : (execOp a.eval o).run P w = .ok (.value v) w) (h : wpList P ops Q rest (a.put o.dst v) w) : wpList P ops Q (o :: rest) a w :=
  wpList_plain hgd fun K hK => by
    unfold Oper.wp
    rw [hr]
    exact hK _ _ h
theorem adr_four {b : List Int} (h : b.length = 16) : ∃ x y z u r, b = x :: y :: z :: u :: r ∧ r.length = 12 := by
  match b, h with
  | x :: y :: z :: u :: r, h => exact ⟨x, y, z, u, r, rfl, by simpa using h⟩
theorem addrGood_any (v : Bool) (b : List Int) (hb : b.length = 16) (w : World) : Calls Tryz.prog 55 #[.agg (adrC v b).toArray] w fun e w' => e = .returned (.bool (adrGood v b)) ∧ Mod (fun _ => False) w w' := by
  obtain ⟨x, y, z, u, r, rfl, hr⟩ := adr_four hb
  exact Good_any v x y z u r hr w
theorem arr_guard : Tryz.prog.eqGuardType Tryz.prog.depth 34 = false := by kernel_rfl
theorem exec_eq_arr {ev : Operand → Value} {op : Oper} {x y : Operand} {q : TypeId} (ho : op.op = .binOp .eql 34 x y q) (xs ys : List Int) (hx : xs.length = 16) (hy : ys.length = 16) (ex : ev x = .agg (xs.map (Value.int .u8)).toArray) (ey : ev y = .agg (ys.map (Value.int .u8)).toArray) (w : World) :
    (execOp ev op).run Tryz.prog w = .ok (.value (.bool (decide (xs = ys)))) w :=
  exec_eq ho ex ey arr_guard (run_equalIn_arr w 9998 (k := .u8) xs ys 16 Tryz.underlying34 Tryz.underlying5 Tryz.sizeOf5 Tryz.isAgg5 hx hy)
theorem adr_bytes (v : Bool) (b : List Int) (hb : b.length = 16) : ((adrC v b).drop 1).take (b.map (Value.int .u8)).length = b.map (Value.int .u8) := by
  unfold adrC
  rw [List.drop_succ_cons, List.drop_zero]
  exact List.take_of_length_le (Nat.le_refl _)
set_option maxRecDepth 100000 in
theorem addrgroup_any (v : Bool) (b : List Int) (hb : b.length = 16) (w : World) : Calls Tryz.prog 138 #[.agg (adrC v b).toArray] w fun e w' => e = .returned (.bool (adrGroup v b)) ∧ Mod (fun _ => False) w w' := by
  obtain ⟨x, y, z, u, r, rfl, hr⟩ := adr_four hb
  have hA := Blk.new w 36 (adrC v (x :: y :: z :: u :: r))
  have c0 := hA.cell (j := 0) rfl
  have c1 := hA.cell (j := 1) rfl
  have HM : Hid (Mod (fun _ => False) w (w.alloc (.cells (adrC v (x :: y :: z :: u :: r)).toArray 36 (0, 0)))) := Lib.hid ((Mod.refl _ _).alloc _)
  have HG : Hid (decide (x / 16 = 14) = decide (224 ≤ x ∧ x ≤ 239)) := Lib.hid (by by_cases h : x / 16 = 14; (rw [decide_eq_true h, decide_eq_true (by omega)]); (rw [decide_eq_false h, decide_eq_false (by omega)]))
  clear hA hb
  go_enter Tryz.func138, Tryz.ntmps138
  cases v with
  | true =>
    go_wp2
    go_returns
    exact ⟨rfl, HM.out⟩
  | false =>
    go_wp2
    go_returns
    refine ⟨?_, HM.out⟩
    first | rfl | (show _ = Ending.returned (.bool (decide (224 ≤ x ∧ x ≤ 239))); rw [← HG.out]; rfl) | trace_state
theorem addrGroup_any (v : Bool) (b : List Int) (hb : b.length = 16) (w : World) : Calls Tryz.prog 110 #[.agg (adrC v b).toArray] w fun e w' => e = .returned (.bool (adrGroup v b)) ∧ Mod (fun _ => False) w w' := by
  have HS : Hid ((Tryz.prog.info? 36).map (·.size) = some (adrC v b).length) := Lib.hid (by rw [adrC_len, hb]; exact adrSz)
  have HB := Lib.hid hb
  have HA := Lib.hid (Blk.new w 36 (adrC v b))
  have HM : Hid (Mod (fun _ => False) w (w.alloc (.cells (adrC v b).toArray 36 (0, 0)))) := Lib.hid ((Mod.refl _ _).alloc _)
  go_enter Tryz.func110, Tryz.ntmps110
  go_wp2_with (first | (refine wpList_load_blk rfl _ _ rfl w.heap.size 0 rfl 36 (adrC v b) (adrC v b) _ HA.out (List.take_of_length_le (Nat.le_refl _)) Tryz.underlying36 rfl HS.out ?_))
  refine (addrgroup_any v b HB.out _).mono ?_; rintro e w1 ⟨rfl, hm⟩
  have HM1 := Lib.hid (HM.out.trans hm fun _ f => f.elim)
  clear hm
  go_wp2
  go_returns
  exact ⟨rfl, HM1.out⟩
end Go.Proofs.YtcccdlmngddalaaGreat
