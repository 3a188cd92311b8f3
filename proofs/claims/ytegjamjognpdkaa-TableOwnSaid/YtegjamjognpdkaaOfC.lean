/- acequiaref35.Of: good ones of some rows, in order, each once: contract. (Printed by gen_of.py.) -/
import Derived.Test.YtegjamjognpdkaaCutC
import Derived.Test.YtegjamjognpdkaaOfP
import Derived.Test.YtegjamjognpdkaaRefI
import Derived.Test.YtegjamjognpdkaaRefJ
import Derived.Test.YtegjamjognpdkaaRegT
namespace Go.Proofs.Ytegjamjognpdkaa
open Go.RowKit
set_option linter.unusedVariables false
set_option linter.unusedSimpArgs false
theorem cellsR_append (sv : Nat → Value) : ∀ (a b : List TRow) (k : Nat), cellsR sv k (a ++ b) = cellsR sv k a ++ cellsR sv (k + a.length) b
  | [], b, k => by simp [cellsR]
  | r :: a, b, k => by
    rw [List.cons_append, cellsR, cellsR, cellsR_append sv a b (k + 1), List.append_assoc, show k + 1 + a.length = k + (r :: a).length by simp; omega]
theorem cellsR_shift (sv sv' : Nat → Value) : ∀ (l : List TRow) (k k' : Nat), (∀ i, i < l.length → sv (k + i) = sv' (k' + i)) → cellsR sv k l = cellsR sv' k' l
  | [], _, _, _ => rfl
  | r :: l, k, k', h => by
    rw [cellsR, cellsR, show sv k = sv' k' from h 0 (by simp), cellsR_shift sv sv' l (k + 1) (k' + 1) fun i hi => by have := h (i + 1) (by simp; omega); rw [show k + 1 + i = k + (i + 1) by omega, show k' + 1 + i = k' + (i + 1) by omega]; exact this]
def insV (sv : Nat → Value) (k : Nat) (u : Value) (j : Nat) : Value := if j < k then sv j else if j = k then u else sv (j - 1)
theorem cellsR_ins (sv : Nat → Value) (u : Value) (out : List TRow) (r : TRow) (k : Nat) (hk : k ≤ out.length) (hok : rowsOk out) :
    cellsR (insV sv k u) 0 (out.take k ++ r :: out.drop k) = (cellsR sv 0 out).take (k * 20) ++ r.c u ++ (cellsR sv 0 out).drop (k * 20) := by
  have hl : (out.take k).length = k := by rw [List.length_take]; omega
  have ht : (cellsR sv 0 (out.take k)).length = k * 20 := by rw [cellsR_len _ _ _ fun r hr => hok r (List.mem_of_mem_take hr), hl]
  have e0 : cellsR sv 0 out = cellsR sv 0 (out.take k) ++ cellsR sv k (out.drop k) := by
    have := cellsR_append sv (out.take k) (out.drop k) 0
    rw [List.take_append_drop, hl, Nat.zero_add] at this
    exact this
  rw [e0, List.take_left' ht, List.drop_left' ht, cellsR_append, cellsR, Nat.zero_add, hl, ← List.append_assoc]
  congr 1
  · congr 1
    · exact cellsR_ext _ _ _ _ fun i hi => by rw [hl] at hi; rw [Nat.zero_add]; unfold insV; rw [if_pos hi]
    · congr 1
      unfold insV
      rw [if_neg (by omega), if_pos rfl]
  · exact cellsR_shift _ _ _ _ _ fun i hi => by unfold insV; rw [if_neg (by omega), if_neg (by omega), show k + 1 + i - 1 = k + i by omega]
theorem RowsOwn.ins {w w' : World} {f f' : Nat → Prop} {v v' u : Value} {out : List TRow} {r : TRow} {sv : Nat → Value} {k n : Nat} (h : RowsOwn w f v out sv) (hk : k ≤ out.length) (hb : adrOk r.b) (hm : Mod (fun _ => False) w w') (hu : Row w f 3 1 u r.next.length (ints r.next)) (hf : ∀ q, f q → f' q) (hn : n = out.length + 1)
    (hrow : Row w' f' 38 20 v' n ((cellsR sv 0 out).take (k * 20) ++ r.c u ++ (cellsR sv 0 out).drop (k * 20))) : RowsOwn w' f' v' (out.take k ++ r :: out.drop k) (insV sv k u) := by
  have hl : (out.take k).length = k := by rw [List.length_take]; omega
  refine ⟨?_, fun x hx => ?_, fun i x hx => ?_⟩
  · rw [cellsR_ins sv u out r k hk h.ok, show (out.take k ++ r :: out.drop k).length = n by simp; omega]
    exact hrow
  · rcases List.mem_append.1 hx with hx | hx
    · exact h.ok x (List.mem_of_mem_take hx)
    · rcases List.mem_cons.1 hx with rfl | hx
      · exact hb
      · exact h.ok x (List.mem_of_mem_drop hx)
  · have keep : ∀ {v : Value} {m : Nat} {xs : List Value}, Row w f 3 1 v m xs → Row w' f' 3 1 v m xs := fun h => (h.keep hm fun _ _ f => f).mono hf
    unfold insV
    by_cases h1 : i < k
    · rw [if_pos h1]
      rw [List.getElem?_append_left (by omega), List.getElem?_take, if_pos h1] at hx
      exact keep (h.next i x hx)
    · rw [if_neg h1]
      rw [List.getElem?_append_right (by omega), hl] at hx
      by_cases h2 : i = k
      · subst h2
        simp at hx
        subst hx
        rw [if_pos rfl]
        exact keep hu
      · rw [if_neg h2]
        obtain ⟨j, rfl⟩ : ∃ j, i = k + (j + 1) := ⟨i - k - 1, by omega⟩
        rw [show k + (j + 1) - k = j + 1 by omega, List.getElem?_cons_succ, List.getElem?_drop] at hx
        rw [show k + (j + 1) - 1 = k + j by omega]
        exact keep (h.next (k + j) x hx)
def hiV : Value → Nat → Value
  | .slice ad _ cap, k => .slice (if cap = 0 then ad else ad.map (·.add 0)) k cap
  | v, _ => v
def loV (sz : Nat) : Value → Nat → Value
  | .slice ad n cap, k => .slice (if cap = k then ad else ad.map (·.add (k * sz))) (n - k) (cap - k)
  | v, _ => v
theorem Reads.hi {w : World} {v : Value} {n : Nat} {xs : List Value} (h : Reads w v n xs) (k sz : Nat) (hk : k ≤ n) : Reads w (hiV v k) k (xs.take (k * sz)) := by
  obtain ⟨ad, cap, rfl, h1, h2, h3⟩ := h
  refine ⟨_, cap, rfl, by omega, h2, fun h0 => ?_⟩
  obtain ⟨g, o, rfl, h4⟩ := h3 (by omega)
  refine ⟨g, o, by rw [if_neg (by omega)]; simp [addr_add], fun i u hu => h4 i u ?_⟩
  rw [List.getElem?_take] at hu
  split at hu
  · exact hu
  · cases hu
theorem Reads.lo {w : World} {v : Value} {n : Nat} {xs : List Value} (h : Reads w v n xs) (k sz : Nat) (hk : k ≤ n) : Reads w (loV sz v k) (n - k) (xs.drop (k * sz)) := by
  obtain ⟨ad, cap, rfl, h1, h2, h3⟩ := h
  refine ⟨_, cap - k, rfl, by omega, by omega, fun h0 => ?_⟩
  obtain ⟨g, o, rfl, h4⟩ := h3 (by omega)
  refine ⟨g, o + k * sz, by rw [if_neg (by omega)]; simp [addr_add], fun i u hu => ?_⟩
  rw [List.getElem?_drop] at hu
  have := h4 _ u hu
  rwa [← Nat.add_assoc] at this
theorem exec_slice_hi {P : Program} {ev : Operand → Value} {op : Oper} {t e : TypeId} {z : Value} {size bytes : Nat} (E : Elem P t e z size bytes) {x hi : Operand} (ho : op.op = .slice t x none (some hi) none) {v : Value} {n : Nat} {xs : List Value} {w0 : World} (hr : Reads w0 v n xs) (ex : ev x = v) (k : Nat) (eh : ev hi = .int .i64 (k : Int)) (hk : k ≤ n) (w : World) :
    (execOp ev op).run P w = .ok (.value (hiV v k)) w := by
  obtain ⟨i, hi', hz, hsz, hby⟩ := E.hi
  obtain ⟨ad, cap, rfl, h1, h2, h3⟩ := hr
  have hkc : k ≤ cap := by omega
  simp [execOp, ho, ex, eh, Instr.sliceAt, Instr.slice, Instr.sliceBounds, Instr.sliceBound, asIntOf, run_underlying E.ht, sizeOf, typeInfo, hi', Result.andThen, hkc, hiV]
theorem exec_slice_lo {P : Program} {ev : Operand → Value} {op : Oper} {t e : TypeId} {z : Value} {size bytes : Nat} (E : Elem P t e z size bytes) {x lo : Operand} (ho : op.op = .slice t x (some lo) none none) {v : Value} {n : Nat} {xs : List Value} {w0 : World} (hr : Reads w0 v n xs) (ex : ev x = v) (k : Nat) (el : ev lo = .int .i64 (k : Int)) (hk : k ≤ n) (w : World) :
    (execOp ev op).run P w = .ok (.value (loV size v k)) w := by
  obtain ⟨i, hi', hz, hsz, hby⟩ := E.hi
  obtain ⟨ad, cap, rfl, h1, h2, h3⟩ := hr
  simp [execOp, ho, ex, el, Instr.sliceAt, Instr.slice, Instr.sliceBounds, Instr.sliceBound, asIntOf, run_underlying E.ht, sizeOf, typeInfo, hi', Result.andThen, hk, loV, hsz]
theorem Blk.reads1 {w : World} {b : Nat} {t : TypeId} {cs : List Value} (h : Blk w b t cs) : Reads w (.slice (some ⟨b, 0, none⟩) 1 1) 1 cs :=
  ⟨_, 1, rfl, Nat.le_refl _, by unfold maxLen; omega, fun _ => ⟨b, 0, rfl, fun i u hu => by rw [Nat.zero_add]; exact h.cell hu⟩⟩
theorem wp_build0 {P : Program} {o : Oper} {a : Act} {w : World} {K : Act → World → Prop} {Q : Exit → Act → World → Prop} {t e : TypeId} {z : Value} {size bytes : Nat} (E : Elem P t e z size bytes) (ho : o.op = .buildSlice t 0 #[])
    (h : ∀ (W : World) (v : Value), Hid (Row W (fun q => w.heap.size ≤ q) e size v 0 []) → Hid (Mod (fun _ => False) w W) → K (a.put o.dst v) W) : o.wp P a w K Q := by
  obtain ⟨i, hi, hz, hsz, hby⟩ := E.hi
  have hr : (Instr.buildSlice t 0 #[]).run P w = .ok (.slice (some ⟨w.heap.size, 0, none⟩) 0 0) (w.alloc (.cells #[] e (0, 0))) := by
    simp [Instr.buildSlice, run_underlying E.ht, sizeOf, typeInfo, hi, Instr.fill, zeroValue, hz, newRow, newObj, Result.andThen, show (Array.range 0 : Array Nat) = #[] from by simp [Array.range]]
    rfl
  unfold Oper.wp
  simp [execOp, ho, hr, Result.andThen]
  exact h _ _ (Lib.hid (Row.empty w e size)) (Lib.hid ((Mod.refl _ _).alloc _))
theorem wp_build1H {P : Program} {o : Oper} {a : Act} {w : World} {K : Act → World → Prop} {Q : Exit → Act → World → Prop} {t e : TypeId} {z : Value} {size bytes : Nat} (E : Elem P t e z size bytes) (x : Operand) (ho : o.op = .buildSlice t 1 #[(0, x)]) (cs : List Value) (hx : a.eval x = .agg cs.toArray)
    (hl : cs.length = size) (h0 : 0 < size) (hs : size ≤ 1000) (h : ∀ (W : World) (b : Nat), Hid (Blk W b e cs) → w.heap.size ≤ b → Hid (Mod (fun _ => False) w W) → K (a.put o.dst (.slice (some ⟨b, 0, none⟩) 1 1)) W) : o.wp P a w K Q := by
  have hr := run_buildSlice1 E cs hl h0 hs w
  unfold Oper.wp
  simp [execOp, ho, hx, hr, Result.andThen]
  exact h _ _ (Lib.hid (Blk.new w e cs)) (Nat.le_refl _) (Lib.hid ((Mod.refl _ _).alloc _))
end Go.Proofs.Ytegjamjognpdkaa
namespace Go.Proofs.Ytegjamjognpdkaa
open Go.RowKit
set_option linter.unusedVariables false
set_option linter.unusedSimpArgs false
def outI (rs : List TRow) (i : Nat) : List TRow := (rs.take i).foldl stepOf []
theorem outI_succ {rs : List TRow} {i : Nat} {r : TRow} (h : rs[i]? = some r) : outI rs (i + 1) = stepOf (outI rs i) r := by
  unfold outI
  rw [List.take_add_one, h]
  simp
theorem outI_len (rs : List TRow) : ∀ i, (outI rs i).length ≤ i
  | 0 => by simp [outI]
  | i + 1 => by
    cases h : rs[i]? with
    | none =>
      have e : outI rs (i + 1) = outI rs i := by unfold outI; rw [List.take_add_one, h]; simp
      rw [e]
      exact Nat.le_succ_of_le (outI_len rs i)
    | some r =>
      rw [outI_succ h]
      have := stepOf_len (outI rs i) r
      have := outI_len rs i
      omega
theorem outI_all (rs : List TRow) : outI rs rs.length = ofT rs := by unfold outI ofT; rw [List.take_length]
structure OfJ (f : Nat → Prop) (w wr : World) (u : Value) (out : List TRow) (sv : Nat → Value) : Prop where
  out : RowsOwn wr (fun q => f q ∨ w.heap.size ≤ q) u out sv
  mod : Mod (fun _ => False) w wr
theorem OfJ.keep {f : Nat → Prop} {w wr w2 : World} {u : Value} {out : List TRow} {sv : Nat → Value} (h : OfJ f w wr u out sv) (hm : Mod (fun _ => False) wr w2) : OfJ f w w2 u out sv :=
  ⟨h.out.keep hm fun _ _ f => f, h.mod.trans hm fun _ f => f.elim⟩
theorem RowsOwn.rowAt {w : World} {f : Nat → Prop} {g n cp j : Nat} {rs : List TRow} {sv : Nat → Value} {r : TRow} (h : RowsOwn w f (.slice (some ⟨g, 0, none⟩) n cp) rs sv) (hj : rs[j]? = some r) : w.rangeAt g (j * 20) (r.c (sv j)) := by
  obtain ⟨ad, cap, e, _, _, h3⟩ := h.row.form
  injection e with e1 e2 e3
  obtain ⟨g', e4, _, _, hc⟩ := h3 (by have := (List.getElem?_eq_some_iff.1 hj).1; omega)
  rw [← e1] at e4
  injection e4 with e5
  injection e5 with e6
  subst e6
  have := rows_get (o := 0) (fun i u hu => by rw [Nat.zero_add]; exact hc i u hu) h.ok hj
  rwa [Nat.zero_add] at this
set_option maxRecDepth 100000 in
set_option maxHeartbeats 6000000 in
theorem of_any (v : Value) (rs : List TRow) (sv : Nat → Value) (f : Nat → Prop) (w : World) (h : RowsOwn w f v rs sv) (hn6 : rs.length ≤ 6) :
    Calls Try.prog 5 #[v] w fun e w' => ∃ v' sv', e = .returned v' ∧ RowsOwn w' (fun q => f q ∨ w.heap.size ≤ q) v' (ofT rs) sv' ∧ Mod (fun _ => False) w w' := by
  have HOK := Lib.hid h.ok
  have HRS := Lib.hid rowSz
  obtain ⟨n, hn⟩ : ∃ n, n = rs.length := ⟨_, rfl⟩
  have hform := h.row.form
  rw [← hn] at hform hn6
  obtain ⟨ad, cp, rfl, hnc, hcm, hg⟩ := hform
  unfold maxLen at hcm
  have HG := Lib.hid hg
  have HH := Lib.hid h
  have HL := Lib.hid hn
  clear hg h hn
  have HJ0 : Hid (OfJ f w (w.alloc (.cells #[] 38 (0, 0))) (.slice (some ⟨w.heap.size, 0, none⟩) 0 0) (outI rs 0) (fun _ => .slice none 0 0)) := Lib.hid ⟨⟨(Row.empty w 38 20).mono fun q hq => .inr hq, fun r hr => (by simp [outI] at hr), fun i r hi => (by simp [outI] at hi)⟩, (Mod.refl _ _).alloc _⟩
  go_enter Try.func5, Try.ntmps5
  go_wp2_with fail
  go_loopw [3, 4] (fun u t wr => ∃ (i : Nat) (svo : Nat → Value), i ≤ n ∧ t = .int .i64 (i : Int) ∧ OfJ f w wr u (outI rs i) svo) (fun _ t _ => n - (intOf t).toNat)
  case atStart => exact ⟨0, _, Nat.zero_le _, rfl, HJ0.out⟩
  case round =>
    obtain ⟨i, svo, hi, rfl, hJ⟩ := hrel
    by_cases hlt : i < n
    · obtain ⟨gl, rfl, _, _, _⟩ := HG.out (by omega)
      obtain ⟨r, hr⟩ : ∃ r, rs[i]? = some r := ⟨_, List.getElem?_eq_getElem (by have := HL.out; omega)⟩
      have HST := Lib.hid (outI_succ hr)
      have hm6 := outI_len rs i
      obtain ⟨out, hout⟩ : ∃ out, out = outI rs i := ⟨_, rfl⟩
      rw [← hout] at hJ hm6 HST
      clear hout
      obtain ⟨m, hm⟩ : ∃ m, m = out.length := ⟨_, rfl⟩
      rw [← hm] at hm6
      have hform := hJ.out.row.form
      rw [← hm] at hform
      obtain ⟨a3, c3, rfl, hmc, hcm3, _⟩ := hform
      unfold maxLen at hcm3
      have HM := Lib.hid hm
      have HJ := Lib.hid hJ
      have HO := Lib.hid (HOK.out r (List.mem_of_getElem? hr))
      have HR := Lib.hid hr
      have HRZ : Hid ((Try.prog.info? 38).map (·.size) = some (r.c (sv i)).length) := Lib.hid (by rw [TRow.c, rowC_len _ _ _ _ _ HO.out.1]; exact HRS.out)
      have HRW := Lib.hid (HH.out.rowAt hr)
      have HN := Lib.hid (HH.out.next i r hr)
      clear hJ hr hm
      go_wp2_with fail
      go_loopw [5, 6, 7] (fun a b t wk => ∃ k : Nat, k ≤ m ∧ a = .int .i64 ((atT out r k : Nat) : Int) ∧ b = .bool (twT out r k) ∧ t = .int .i64 (k : Int) ∧ OfJ f w wk (.slice a3 m c3) out svo) (fun _ _ t _ => m - (intOf t).toNat)
      case atStart => exact ⟨0, Nat.zero_le _, rfl, rfl, rfl, HJ.out⟩
      case round =>
        obtain ⟨k, hk, rfl, rfl, rfl, hK⟩ := hrel
        have HK := Lib.hid hK
        clear hK
        by_cases hkm : k < m
        · obtain ⟨q, hq⟩ : ∃ q, out[k]? = some q := ⟨_, List.getElem?_eq_getElem (by have := HM.out; omega)⟩
          have hr0 := HK.out.out.row
          rw [← HM.out] at hr0
          obtain ⟨g3, c3', e3, _, _, _⟩ := hr0.at0 (by omega)
          injection e3 with e3 _ e3c
          subst e3
          subst e3c
          have HQ := Lib.hid hq
          have HQO := Lib.hid (HK.out.out.ok q (List.mem_of_getElem? hq))
          have HQA := Lib.hid (HK.out.out.rowAt hq)
          have HRA := Lib.hid (keepRange HK.out.mod HRW.out)
          have HQZ : Hid ((Try.prog.info? 38).map (·.size) = some (q.c (svo k)).length) := Lib.hid (by rw [TRow.c, rowC_len _ _ _ _ _ HQO.out.1]; exact HRS.out)
          have HAT : Hid (atT out r (k + 1) = if cmpT q r = -1 then k + 1 else atT out r k) := Lib.hid (by rw [← (show out.getD k rowNo = q by rw [List.getD_eq_getElem?_getD, hq]; rfl)]; rfl)
          have HTW : Hid (twT out r (k + 1) = (twT out r k || decide (cmpT q r = 0))) := Lib.hid (by rw [← (show out.getD k rowNo = q by rw [List.getD_eq_getElem?_getD, hq]; rfl)]; rfl)
          have hatk := atT_le out r k
          obtain ⟨A, hA⟩ : ∃ A, A = atT out r k := ⟨_, rfl⟩
          rw [← hA] at HAT hatk ⊢
          obtain ⟨T, hT⟩ : ∃ T, T = twT out r k := ⟨_, rfl⟩
          rw [← hT] at HTW ⊢
          clear hq hr0 hA hT
          go_wp2_with fail
          refine wp_region_plan [8] [(0, 0), (1, 0), (2, 0), (3, 1), (4, 0), (5, 0), (6, 0), (7, 1), (8, 3), (9, 0)] (fun w' : World => w'.rangeAt g3 (k * 20) (q.c (svo k)) ∧ w'.rangeAt gl (i * 20) (r.c (sv i))) (by kernel_rfl) (by kernel_rfl) (fun d _ _ _ _ h => by cases d <;> exact h) ?_
          repeat (first | (refine plan_skip rfl rfl ?_; simp only [List.getElem_toArray, List.getElem_cons_succ, List.getElem_cons_zero, Act.put, List.setIfInBounds_toArray, List.set_cons_zero, List.set_cons_succ]) | (refine plan_pass2 rfl rfl ?_; simp only [List.getElem_toArray, List.getElem_cons_succ, List.getElem_cons_zero, Act.put, List.setIfInBounds_toArray, List.set_cons_zero, List.set_cons_succ]) | (refine plan_pass3 rfl rfl ?_; simp only [List.getElem_toArray, List.getElem_cons_succ, List.getElem_cons_zero, Act.put, List.setIfInBounds_toArray, List.set_cons_zero, List.set_cons_succ]) | (refine plan_take (v := ?_) rfl rfl ?_ ?_; rotate_left; (focus (intro w0; go_simp; try with_reducible rfl)); simp only [List.getElem_toArray, List.getElem_cons_succ, List.getElem_cons_zero, Act.put, List.setIfInBounds_toArray, List.set_cons_zero, List.set_cons_succ]) | (refine plan_held (v := ?_) rfl rfl (⟨HQA.out, HRA.out⟩) ?_ ?_; rotate_left; (focus (intro w0 hSw; (try dsimp only at hSw); go_split_ands; go_simp; try with_reducible rfl)); simp only [List.getElem_toArray, List.getElem_cons_succ, List.getElem_cons_zero, Act.put, List.setIfInBounds_toArray, List.set_cons_zero, List.set_cons_succ])  | (refine plan_skip1 rfl rfl (⟨HQA.out, HRA.out⟩) ?_; simp only [List.getElem_toArray, List.getElem_cons_succ, List.getElem_cons_zero, Act.put, List.setIfInBounds_toArray, List.set_cons_zero, List.set_cons_succ]))
          (refine plan_held (v := .agg (q.c (svo k)).toArray) rfl rfl (⟨HQA.out, HRA.out⟩) (fun w0 h0 => exec_load_mid _ _ rfl g3 (k * 20) rfl (q.c (svo k)) _ w0 h0.1 Try.underlying38 rfl HQZ.out) ?_; try simp only [List.getElem_toArray, List.getElem_cons_succ, List.getElem_cons_zero, Act.put, List.setIfInBounds_toArray, List.set_cons_zero, List.set_cons_succ])
          repeat (first | (refine plan_skip rfl rfl ?_; simp only [List.getElem_toArray, List.getElem_cons_succ, List.getElem_cons_zero, Act.put, List.setIfInBounds_toArray, List.set_cons_zero, List.set_cons_succ]) | (refine plan_pass2 rfl rfl ?_; simp only [List.getElem_toArray, List.getElem_cons_succ, List.getElem_cons_zero, Act.put, List.setIfInBounds_toArray, List.set_cons_zero, List.set_cons_succ]) | (refine plan_pass3 rfl rfl ?_; simp only [List.getElem_toArray, List.getElem_cons_succ, List.getElem_cons_zero, Act.put, List.setIfInBounds_toArray, List.set_cons_zero, List.set_cons_succ]) | (refine plan_take (v := ?_) rfl rfl ?_ ?_; rotate_left; (focus (intro w0; go_simp; try with_reducible rfl)); simp only [List.getElem_toArray, List.getElem_cons_succ, List.getElem_cons_zero, Act.put, List.setIfInBounds_toArray, List.set_cons_zero, List.set_cons_succ]) | (refine plan_held (v := ?_) rfl rfl (⟨HQA.out, HRA.out⟩) ?_ ?_; rotate_left; (focus (intro w0 hSw; (try dsimp only at hSw); go_split_ands; go_simp; try with_reducible rfl)); simp only [List.getElem_toArray, List.getElem_cons_succ, List.getElem_cons_zero, Act.put, List.setIfInBounds_toArray, List.set_cons_zero, List.set_cons_succ])  | (refine plan_skip1 rfl rfl (⟨HQA.out, HRA.out⟩) ?_; simp only [List.getElem_toArray, List.getElem_cons_succ, List.getElem_cons_zero, Act.put, List.setIfInBounds_toArray, List.set_cons_zero, List.set_cons_succ]))
          (refine plan_held (v := .agg (r.c (sv i)).toArray) rfl rfl (⟨HQA.out, HRA.out⟩) (fun w0 h0 => exec_load_mid _ _ rfl gl (i * 20) rfl (r.c (sv i)) _ w0 h0.2 Try.underlying38 rfl HRZ.out) ?_; try simp only [List.getElem_toArray, List.getElem_cons_succ, List.getElem_cons_zero, Act.put, List.setIfInBounds_toArray, List.set_cons_zero, List.set_cons_succ])
          repeat (first | (refine plan_skip rfl rfl ?_; simp only [List.getElem_toArray, List.getElem_cons_succ, List.getElem_cons_zero, Act.put, List.setIfInBounds_toArray, List.set_cons_zero, List.set_cons_succ]) | (refine plan_pass2 rfl rfl ?_; simp only [List.getElem_toArray, List.getElem_cons_succ, List.getElem_cons_zero, Act.put, List.setIfInBounds_toArray, List.set_cons_zero, List.set_cons_succ]) | (refine plan_pass3 rfl rfl ?_; simp only [List.getElem_toArray, List.getElem_cons_succ, List.getElem_cons_zero, Act.put, List.setIfInBounds_toArray, List.set_cons_zero, List.set_cons_succ]) | (refine plan_take (v := ?_) rfl rfl ?_ ?_; rotate_left; (focus (intro w0; go_simp; try with_reducible rfl)); simp only [List.getElem_toArray, List.getElem_cons_succ, List.getElem_cons_zero, Act.put, List.setIfInBounds_toArray, List.set_cons_zero, List.set_cons_succ]) | (refine plan_held (v := ?_) rfl rfl (⟨HQA.out, HRA.out⟩) ?_ ?_; rotate_left; (focus (intro w0 hSw; (try dsimp only at hSw); go_split_ands; go_simp; try with_reducible rfl)); simp only [List.getElem_toArray, List.getElem_cons_succ, List.getElem_cons_zero, Act.put, List.setIfInBounds_toArray, List.set_cons_zero, List.set_cons_succ])  | (refine plan_skip1 rfl rfl (⟨HQA.out, HRA.out⟩) ?_; simp only [List.getElem_toArray, List.getElem_cons_succ, List.getElem_cons_zero, Act.put, List.setIfInBounds_toArray, List.set_cons_zero, List.set_cons_succ]))
          (refine plan_end rfl rfl rfl fun K hK => ?_; (try simp only [List.getElem_toArray, List.getElem_cons_succ, List.getElem_cons_zero]))
          go_simp
          refine (refCompare_any q r (svo k) (sv i) HQO.out HO.out _).mono ?_; rintro e w5 ⟨rfl, hm5⟩
          have HQ5 := Lib.hid (keepRange hm5 (show wr.drew.rangeAt g3 (k * 20) (q.c (svo k)) from HQA.out))
          have HR5 := Lib.hid (keepRange hm5 (show wr.drew.rangeAt gl (i * 20) (r.c (sv i)) from HRA.out))
          have HK5 := Lib.hid (HK.out.keep ((Mod.refl (fun _ => False) wr).drew.trans hm5 fun _ f => f.elim))
          refine hK _ _ ?_
          clear hK K hm5 HQA HRA HK
          try simp only [List.getElem_toArray, List.getElem_cons_succ, List.getElem_cons_zero, Act.put, List.setIfInBounds_toArray, List.set_cons_zero, List.set_cons_succ]
          rcases cmpT_in q r with hc | hc | hc
          · have HC := Lib.hid hc
            clear hc
            cases T with
            | true =>
              rw [HC.out]
              repeat (first | (refine plan_skip rfl rfl ?_; simp only [List.getElem_toArray, List.getElem_cons_succ, List.getElem_cons_zero, Act.put, List.setIfInBounds_toArray, List.set_cons_zero, List.set_cons_succ]) | (refine plan_pass2 rfl rfl ?_; simp only [List.getElem_toArray, List.getElem_cons_succ, List.getElem_cons_zero, Act.put, List.setIfInBounds_toArray, List.set_cons_zero, List.set_cons_succ]) | (refine plan_pass3 rfl rfl ?_; simp only [List.getElem_toArray, List.getElem_cons_succ, List.getElem_cons_zero, Act.put, List.setIfInBounds_toArray, List.set_cons_zero, List.set_cons_succ]) | (refine plan_take (v := ?_) rfl rfl ?_ ?_; rotate_left; (focus (intro w0; go_simp; try with_reducible rfl)); simp only [List.getElem_toArray, List.getElem_cons_succ, List.getElem_cons_zero, Act.put, List.setIfInBounds_toArray, List.set_cons_zero, List.set_cons_succ]) | (refine plan_held (v := ?_) rfl rfl (⟨HQ5.out, HR5.out⟩) ?_ ?_; rotate_left; (focus (intro w0 hSw; (try dsimp only at hSw); go_split_ands; go_simp; try with_reducible rfl)); simp only [List.getElem_toArray, List.getElem_cons_succ, List.getElem_cons_zero, Act.put, List.setIfInBounds_toArray, List.set_cons_zero, List.set_cons_succ])  | (refine plan_skip1 rfl rfl (⟨HQ5.out, HR5.out⟩) ?_; simp only [List.getElem_toArray, List.getElem_cons_succ, List.getElem_cons_zero, Act.put, List.setIfInBounds_toArray, List.set_cons_zero, List.set_cons_succ]))
              refine plan_nil ?_
              go_wp2_with fail
              refine wp_region_plan [10] [(0, 0), (1, 0), (2, 0), (3, 0), (4, 0), (5, 1), (6, 0), (7, 0), (8, 0), (9, 1), (10, 3), (11, 0), (12, 0), (13, 0)] (fun w' : World => w'.rangeAt g3 (k * 20) (q.c (svo k)) ∧ w'.rangeAt gl (i * 20) (r.c (sv i))) (by kernel_rfl) (by kernel_rfl) (fun d _ _ _ _ h => by cases d <;> exact h) ?_
              repeat (first | (refine plan_skip rfl rfl ?_; simp only [List.getElem_toArray, List.getElem_cons_succ, List.getElem_cons_zero, Act.put, List.setIfInBounds_toArray, List.set_cons_zero, List.set_cons_succ]) | (refine plan_pass2 rfl rfl ?_; simp only [List.getElem_toArray, List.getElem_cons_succ, List.getElem_cons_zero, Act.put, List.setIfInBounds_toArray, List.set_cons_zero, List.set_cons_succ]) | (refine plan_pass3 rfl rfl ?_; simp only [List.getElem_toArray, List.getElem_cons_succ, List.getElem_cons_zero, Act.put, List.setIfInBounds_toArray, List.set_cons_zero, List.set_cons_succ]) | (refine plan_take (v := ?_) rfl rfl ?_ ?_; rotate_left; (focus (intro w0; go_simp; try with_reducible rfl)); simp only [List.getElem_toArray, List.getElem_cons_succ, List.getElem_cons_zero, Act.put, List.setIfInBounds_toArray, List.set_cons_zero, List.set_cons_succ]) | (refine plan_held (v := ?_) rfl rfl (⟨HQ5.out, HR5.out⟩) ?_ ?_; rotate_left; (focus (intro w0 hSw; (try dsimp only at hSw); go_split_ands; go_simp; try with_reducible rfl)); simp only [List.getElem_toArray, List.getElem_cons_succ, List.getElem_cons_zero, Act.put, List.setIfInBounds_toArray, List.set_cons_zero, List.set_cons_succ])  | (refine plan_skip1 rfl rfl (⟨HQ5.out, HR5.out⟩) ?_; simp only [List.getElem_toArray, List.getElem_cons_succ, List.getElem_cons_zero, Act.put, List.setIfInBounds_toArray, List.set_cons_zero, List.set_cons_succ]))
              refine plan_nil ?_
              go_wp2
              go_roundw
              case rel => exact ⟨k + 1, by omega, by rw [HAT.out, if_pos HC.out]; go_num, by rw [HTW.out, HC.out]; rfl, by go_num, HK5.out.keep (Mod.refl _ _).drew⟩
              case measure => simp [intOf]; omega
            | false =>
              rw [HC.out]
              repeat (first | (refine plan_skip rfl rfl ?_; simp only [List.getElem_toArray, List.getElem_cons_succ, List.getElem_cons_zero, Act.put, List.setIfInBounds_toArray, List.set_cons_zero, List.set_cons_succ]) | (refine plan_pass2 rfl rfl ?_; simp only [List.getElem_toArray, List.getElem_cons_succ, List.getElem_cons_zero, Act.put, List.setIfInBounds_toArray, List.set_cons_zero, List.set_cons_succ]) | (refine plan_pass3 rfl rfl ?_; simp only [List.getElem_toArray, List.getElem_cons_succ, List.getElem_cons_zero, Act.put, List.setIfInBounds_toArray, List.set_cons_zero, List.set_cons_succ]) | (refine plan_take (v := ?_) rfl rfl ?_ ?_; rotate_left; (focus (intro w0; go_simp; try with_reducible rfl)); simp only [List.getElem_toArray, List.getElem_cons_succ, List.getElem_cons_zero, Act.put, List.setIfInBounds_toArray, List.set_cons_zero, List.set_cons_succ]) | (refine plan_held (v := ?_) rfl rfl (⟨HQ5.out, HR5.out⟩) ?_ ?_; rotate_left; (focus (intro w0 hSw; (try dsimp only at hSw); go_split_ands; go_simp; try with_reducible rfl)); simp only [List.getElem_toArray, List.getElem_cons_succ, List.getElem_cons_zero, Act.put, List.setIfInBounds_toArray, List.set_cons_zero, List.set_cons_succ])  | (refine plan_skip1 rfl rfl (⟨HQ5.out, HR5.out⟩) ?_; simp only [List.getElem_toArray, List.getElem_cons_succ, List.getElem_cons_zero, Act.put, List.setIfInBounds_toArray, List.set_cons_zero, List.set_cons_succ]))
              refine plan_nil ?_
              go_wp2_with fail
              refine wp_region_plan [10] [(0, 0), (1, 0), (2, 0), (3, 0), (4, 0), (5, 1), (6, 0), (7, 0), (8, 0), (9, 1), (10, 3), (11, 0), (12, 0), (13, 0)] (fun w' : World => w'.rangeAt g3 (k * 20) (q.c (svo k)) ∧ w'.rangeAt gl (i * 20) (r.c (sv i))) (by kernel_rfl) (by kernel_rfl) (fun d _ _ _ _ h => by cases d <;> exact h) ?_
              repeat (first | (refine plan_skip rfl rfl ?_; simp only [List.getElem_toArray, List.getElem_cons_succ, List.getElem_cons_zero, Act.put, List.setIfInBounds_toArray, List.set_cons_zero, List.set_cons_succ]) | (refine plan_pass2 rfl rfl ?_; simp only [List.getElem_toArray, List.getElem_cons_succ, List.getElem_cons_zero, Act.put, List.setIfInBounds_toArray, List.set_cons_zero, List.set_cons_succ]) | (refine plan_pass3 rfl rfl ?_; simp only [List.getElem_toArray, List.getElem_cons_succ, List.getElem_cons_zero, Act.put, List.setIfInBounds_toArray, List.set_cons_zero, List.set_cons_succ]) | (refine plan_take (v := ?_) rfl rfl ?_ ?_; rotate_left; (focus (intro w0; go_simp; try with_reducible rfl)); simp only [List.getElem_toArray, List.getElem_cons_succ, List.getElem_cons_zero, Act.put, List.setIfInBounds_toArray, List.set_cons_zero, List.set_cons_succ]) | (refine plan_held (v := ?_) rfl rfl (⟨HQ5.out, HR5.out⟩) ?_ ?_; rotate_left; (focus (intro w0 hSw; (try dsimp only at hSw); go_split_ands; go_simp; try with_reducible rfl)); simp only [List.getElem_toArray, List.getElem_cons_succ, List.getElem_cons_zero, Act.put, List.setIfInBounds_toArray, List.set_cons_zero, List.set_cons_succ])  | (refine plan_skip1 rfl rfl (⟨HQ5.out, HR5.out⟩) ?_; simp only [List.getElem_toArray, List.getElem_cons_succ, List.getElem_cons_zero, Act.put, List.setIfInBounds_toArray, List.set_cons_zero, List.set_cons_succ]))
              (refine plan_held (v := .agg (q.c (svo k)).toArray) rfl rfl (⟨HQ5.out, HR5.out⟩) (fun w0 h0 => exec_load_mid _ _ rfl g3 (k * 20) rfl (q.c (svo k)) _ w0 h0.1 Try.underlying38 rfl HQZ.out) ?_; try simp only [List.getElem_toArray, List.getElem_cons_succ, List.getElem_cons_zero, Act.put, List.setIfInBounds_toArray, List.set_cons_zero, List.set_cons_succ])
              repeat (first | (refine plan_skip rfl rfl ?_; simp only [List.getElem_toArray, List.getElem_cons_succ, List.getElem_cons_zero, Act.put, List.setIfInBounds_toArray, List.set_cons_zero, List.set_cons_succ]) | (refine plan_pass2 rfl rfl ?_; simp only [List.getElem_toArray, List.getElem_cons_succ, List.getElem_cons_zero, Act.put, List.setIfInBounds_toArray, List.set_cons_zero, List.set_cons_succ]) | (refine plan_pass3 rfl rfl ?_; simp only [List.getElem_toArray, List.getElem_cons_succ, List.getElem_cons_zero, Act.put, List.setIfInBounds_toArray, List.set_cons_zero, List.set_cons_succ]) | (refine plan_take (v := ?_) rfl rfl ?_ ?_; rotate_left; (focus (intro w0; go_simp; try with_reducible rfl)); simp only [List.getElem_toArray, List.getElem_cons_succ, List.getElem_cons_zero, Act.put, List.setIfInBounds_toArray, List.set_cons_zero, List.set_cons_succ]) | (refine plan_held (v := ?_) rfl rfl (⟨HQ5.out, HR5.out⟩) ?_ ?_; rotate_left; (focus (intro w0 hSw; (try dsimp only at hSw); go_split_ands; go_simp; try with_reducible rfl)); simp only [List.getElem_toArray, List.getElem_cons_succ, List.getElem_cons_zero, Act.put, List.setIfInBounds_toArray, List.set_cons_zero, List.set_cons_succ])  | (refine plan_skip1 rfl rfl (⟨HQ5.out, HR5.out⟩) ?_; simp only [List.getElem_toArray, List.getElem_cons_succ, List.getElem_cons_zero, Act.put, List.setIfInBounds_toArray, List.set_cons_zero, List.set_cons_succ]))
              (refine plan_held (v := .agg (r.c (sv i)).toArray) rfl rfl (⟨HQ5.out, HR5.out⟩) (fun w0 h0 => exec_load_mid _ _ rfl gl (i * 20) rfl (r.c (sv i)) _ w0 h0.2 Try.underlying38 rfl HRZ.out) ?_; try simp only [List.getElem_toArray, List.getElem_cons_succ, List.getElem_cons_zero, Act.put, List.setIfInBounds_toArray, List.set_cons_zero, List.set_cons_succ])
              repeat (first | (refine plan_skip rfl rfl ?_; simp only [List.getElem_toArray, List.getElem_cons_succ, List.getElem_cons_zero, Act.put, List.setIfInBounds_toArray, List.set_cons_zero, List.set_cons_succ]) | (refine plan_pass2 rfl rfl ?_; simp only [List.getElem_toArray, List.getElem_cons_succ, List.getElem_cons_zero, Act.put, List.setIfInBounds_toArray, List.set_cons_zero, List.set_cons_succ]) | (refine plan_pass3 rfl rfl ?_; simp only [List.getElem_toArray, List.getElem_cons_succ, List.getElem_cons_zero, Act.put, List.setIfInBounds_toArray, List.set_cons_zero, List.set_cons_succ]) | (refine plan_take (v := ?_) rfl rfl ?_ ?_; rotate_left; (focus (intro w0; go_simp; try with_reducible rfl)); simp only [List.getElem_toArray, List.getElem_cons_succ, List.getElem_cons_zero, Act.put, List.setIfInBounds_toArray, List.set_cons_zero, List.set_cons_succ]) | (refine plan_held (v := ?_) rfl rfl (⟨HQ5.out, HR5.out⟩) ?_ ?_; rotate_left; (focus (intro w0 hSw; (try dsimp only at hSw); go_split_ands; go_simp; try with_reducible rfl)); simp only [List.getElem_toArray, List.getElem_cons_succ, List.getElem_cons_zero, Act.put, List.setIfInBounds_toArray, List.set_cons_zero, List.set_cons_succ])  | (refine plan_skip1 rfl rfl (⟨HQ5.out, HR5.out⟩) ?_; simp only [List.getElem_toArray, List.getElem_cons_succ, List.getElem_cons_zero, Act.put, List.setIfInBounds_toArray, List.set_cons_zero, List.set_cons_succ]))
              (refine plan_end rfl rfl rfl fun K hK => ?_; (try simp only [List.getElem_toArray, List.getElem_cons_succ, List.getElem_cons_zero]))
              go_simp
              refine (refCompare_any q r (svo k) (sv i) HQO.out HO.out _).mono ?_; rintro e w6 ⟨rfl, hm6'⟩
              have HK6 := Lib.hid (HK5.out.keep ((Mod.refl (fun _ => False) w5).drew.trans hm6' fun _ f => f.elim))
              refine hK _ _ ?_
              clear hK K hm6'
              rw [HC.out]
              try simp only [List.getElem_toArray, List.getElem_cons_succ, List.getElem_cons_zero, Act.put, List.setIfInBounds_toArray, List.set_cons_zero, List.set_cons_succ]
              repeat (first | (refine plan_skip rfl rfl ?_; simp only [List.getElem_toArray, List.getElem_cons_succ, List.getElem_cons_zero, Act.put, List.setIfInBounds_toArray, List.set_cons_zero, List.set_cons_succ]) | (refine plan_pass2 rfl rfl ?_; simp only [List.getElem_toArray, List.getElem_cons_succ, List.getElem_cons_zero, Act.put, List.setIfInBounds_toArray, List.set_cons_zero, List.set_cons_succ]) | (refine plan_pass3 rfl rfl ?_; simp only [List.getElem_toArray, List.getElem_cons_succ, List.getElem_cons_zero, Act.put, List.setIfInBounds_toArray, List.set_cons_zero, List.set_cons_succ]) | (refine plan_take (v := ?_) rfl rfl ?_ ?_; rotate_left; (focus (intro w0; go_simp; try with_reducible rfl)); simp only [List.getElem_toArray, List.getElem_cons_succ, List.getElem_cons_zero, Act.put, List.setIfInBounds_toArray, List.set_cons_zero, List.set_cons_succ]) | fail )
              refine plan_nil ?_
              go_wp2
              go_roundw
              case rel => exact ⟨k + 1, by omega, by rw [HAT.out, if_pos HC.out]; go_num, by rw [HTW.out, HC.out]; rfl, by go_num, HK6.out⟩
              case measure => simp [intOf]; omega
          · have HC := Lib.hid hc
            clear hc
            cases T with
            | true =>
              rw [HC.out]
              repeat (first | (refine plan_skip rfl rfl ?_; simp only [List.getElem_toArray, List.getElem_cons_succ, List.getElem_cons_zero, Act.put, List.setIfInBounds_toArray, List.set_cons_zero, List.set_cons_succ]) | (refine plan_pass2 rfl rfl ?_; simp only [List.getElem_toArray, List.getElem_cons_succ, List.getElem_cons_zero, Act.put, List.setIfInBounds_toArray, List.set_cons_zero, List.set_cons_succ]) | (refine plan_pass3 rfl rfl ?_; simp only [List.getElem_toArray, List.getElem_cons_succ, List.getElem_cons_zero, Act.put, List.setIfInBounds_toArray, List.set_cons_zero, List.set_cons_succ]) | (refine plan_take (v := ?_) rfl rfl ?_ ?_; rotate_left; (focus (intro w0; go_simp; try with_reducible rfl)); simp only [List.getElem_toArray, List.getElem_cons_succ, List.getElem_cons_zero, Act.put, List.setIfInBounds_toArray, List.set_cons_zero, List.set_cons_succ]) | (refine plan_held (v := ?_) rfl rfl (⟨HQ5.out, HR5.out⟩) ?_ ?_; rotate_left; (focus (intro w0 hSw; (try dsimp only at hSw); go_split_ands; go_simp; try with_reducible rfl)); simp only [List.getElem_toArray, List.getElem_cons_succ, List.getElem_cons_zero, Act.put, List.setIfInBounds_toArray, List.set_cons_zero, List.set_cons_succ])  | (refine plan_skip1 rfl rfl (⟨HQ5.out, HR5.out⟩) ?_; simp only [List.getElem_toArray, List.getElem_cons_succ, List.getElem_cons_zero, Act.put, List.setIfInBounds_toArray, List.set_cons_zero, List.set_cons_succ]))
              refine plan_nil ?_
              go_wp2_with fail
              refine wp_region_plan [10] [(0, 0), (1, 0), (2, 0), (3, 0), (4, 0), (5, 1), (6, 0), (7, 0), (8, 0), (9, 1), (10, 3), (11, 0), (12, 0), (13, 0)] (fun w' : World => w'.rangeAt g3 (k * 20) (q.c (svo k)) ∧ w'.rangeAt gl (i * 20) (r.c (sv i))) (by kernel_rfl) (by kernel_rfl) (fun d _ _ _ _ h => by cases d <;> exact h) ?_
              repeat (first | (refine plan_skip rfl rfl ?_; simp only [List.getElem_toArray, List.getElem_cons_succ, List.getElem_cons_zero, Act.put, List.setIfInBounds_toArray, List.set_cons_zero, List.set_cons_succ]) | (refine plan_pass2 rfl rfl ?_; simp only [List.getElem_toArray, List.getElem_cons_succ, List.getElem_cons_zero, Act.put, List.setIfInBounds_toArray, List.set_cons_zero, List.set_cons_succ]) | (refine plan_pass3 rfl rfl ?_; simp only [List.getElem_toArray, List.getElem_cons_succ, List.getElem_cons_zero, Act.put, List.setIfInBounds_toArray, List.set_cons_zero, List.set_cons_succ]) | (refine plan_take (v := ?_) rfl rfl ?_ ?_; rotate_left; (focus (intro w0; go_simp; try with_reducible rfl)); simp only [List.getElem_toArray, List.getElem_cons_succ, List.getElem_cons_zero, Act.put, List.setIfInBounds_toArray, List.set_cons_zero, List.set_cons_succ]) | (refine plan_held (v := ?_) rfl rfl (⟨HQ5.out, HR5.out⟩) ?_ ?_; rotate_left; (focus (intro w0 hSw; (try dsimp only at hSw); go_split_ands; go_simp; try with_reducible rfl)); simp only [List.getElem_toArray, List.getElem_cons_succ, List.getElem_cons_zero, Act.put, List.setIfInBounds_toArray, List.set_cons_zero, List.set_cons_succ])  | (refine plan_skip1 rfl rfl (⟨HQ5.out, HR5.out⟩) ?_; simp only [List.getElem_toArray, List.getElem_cons_succ, List.getElem_cons_zero, Act.put, List.setIfInBounds_toArray, List.set_cons_zero, List.set_cons_succ]))
              refine plan_nil ?_
              go_wp2
              go_roundw
              case rel => exact ⟨k + 1, by omega, by rw [HAT.out, if_neg (by rw [HC.out]; decide)], by rw [HTW.out, HC.out]; rfl, by go_num, HK5.out.keep (Mod.refl _ _).drew⟩
              case measure => simp [intOf]; omega
            | false =>
              rw [HC.out]
              repeat (first | (refine plan_skip rfl rfl ?_; simp only [List.getElem_toArray, List.getElem_cons_succ, List.getElem_cons_zero, Act.put, List.setIfInBounds_toArray, List.set_cons_zero, List.set_cons_succ]) | (refine plan_pass2 rfl rfl ?_; simp only [List.getElem_toArray, List.getElem_cons_succ, List.getElem_cons_zero, Act.put, List.setIfInBounds_toArray, List.set_cons_zero, List.set_cons_succ]) | (refine plan_pass3 rfl rfl ?_; simp only [List.getElem_toArray, List.getElem_cons_succ, List.getElem_cons_zero, Act.put, List.setIfInBounds_toArray, List.set_cons_zero, List.set_cons_succ]) | (refine plan_take (v := ?_) rfl rfl ?_ ?_; rotate_left; (focus (intro w0; go_simp; try with_reducible rfl)); simp only [List.getElem_toArray, List.getElem_cons_succ, List.getElem_cons_zero, Act.put, List.setIfInBounds_toArray, List.set_cons_zero, List.set_cons_succ]) | (refine plan_held (v := ?_) rfl rfl (⟨HQ5.out, HR5.out⟩) ?_ ?_; rotate_left; (focus (intro w0 hSw; (try dsimp only at hSw); go_split_ands; go_simp; try with_reducible rfl)); simp only [List.getElem_toArray, List.getElem_cons_succ, List.getElem_cons_zero, Act.put, List.setIfInBounds_toArray, List.set_cons_zero, List.set_cons_succ])  | (refine plan_skip1 rfl rfl (⟨HQ5.out, HR5.out⟩) ?_; simp only [List.getElem_toArray, List.getElem_cons_succ, List.getElem_cons_zero, Act.put, List.setIfInBounds_toArray, List.set_cons_zero, List.set_cons_succ]))
              refine plan_nil ?_
              go_wp2_with fail
              refine wp_region_plan [10] [(0, 0), (1, 0), (2, 0), (3, 0), (4, 0), (5, 1), (6, 0), (7, 0), (8, 0), (9, 1), (10, 3), (11, 0), (12, 0), (13, 0)] (fun w' : World => w'.rangeAt g3 (k * 20) (q.c (svo k)) ∧ w'.rangeAt gl (i * 20) (r.c (sv i))) (by kernel_rfl) (by kernel_rfl) (fun d _ _ _ _ h => by cases d <;> exact h) ?_
              repeat (first | (refine plan_skip rfl rfl ?_; simp only [List.getElem_toArray, List.getElem_cons_succ, List.getElem_cons_zero, Act.put, List.setIfInBounds_toArray, List.set_cons_zero, List.set_cons_succ]) | (refine plan_pass2 rfl rfl ?_; simp only [List.getElem_toArray, List.getElem_cons_succ, List.getElem_cons_zero, Act.put, List.setIfInBounds_toArray, List.set_cons_zero, List.set_cons_succ]) | (refine plan_pass3 rfl rfl ?_; simp only [List.getElem_toArray, List.getElem_cons_succ, List.getElem_cons_zero, Act.put, List.setIfInBounds_toArray, List.set_cons_zero, List.set_cons_succ]) | (refine plan_take (v := ?_) rfl rfl ?_ ?_; rotate_left; (focus (intro w0; go_simp; try with_reducible rfl)); simp only [List.getElem_toArray, List.getElem_cons_succ, List.getElem_cons_zero, Act.put, List.setIfInBounds_toArray, List.set_cons_zero, List.set_cons_succ]) | (refine plan_held (v := ?_) rfl rfl (⟨HQ5.out, HR5.out⟩) ?_ ?_; rotate_left; (focus (intro w0 hSw; (try dsimp only at hSw); go_split_ands; go_simp; try with_reducible rfl)); simp only [List.getElem_toArray, List.getElem_cons_succ, List.getElem_cons_zero, Act.put, List.setIfInBounds_toArray, List.set_cons_zero, List.set_cons_succ])  | (refine plan_skip1 rfl rfl (⟨HQ5.out, HR5.out⟩) ?_; simp only [List.getElem_toArray, List.getElem_cons_succ, List.getElem_cons_zero, Act.put, List.setIfInBounds_toArray, List.set_cons_zero, List.set_cons_succ]))
              (refine plan_held (v := .agg (q.c (svo k)).toArray) rfl rfl (⟨HQ5.out, HR5.out⟩) (fun w0 h0 => exec_load_mid _ _ rfl g3 (k * 20) rfl (q.c (svo k)) _ w0 h0.1 Try.underlying38 rfl HQZ.out) ?_; try simp only [List.getElem_toArray, List.getElem_cons_succ, List.getElem_cons_zero, Act.put, List.setIfInBounds_toArray, List.set_cons_zero, List.set_cons_succ])
              repeat (first | (refine plan_skip rfl rfl ?_; simp only [List.getElem_toArray, List.getElem_cons_succ, List.getElem_cons_zero, Act.put, List.setIfInBounds_toArray, List.set_cons_zero, List.set_cons_succ]) | (refine plan_pass2 rfl rfl ?_; simp only [List.getElem_toArray, List.getElem_cons_succ, List.getElem_cons_zero, Act.put, List.setIfInBounds_toArray, List.set_cons_zero, List.set_cons_succ]) | (refine plan_pass3 rfl rfl ?_; simp only [List.getElem_toArray, List.getElem_cons_succ, List.getElem_cons_zero, Act.put, List.setIfInBounds_toArray, List.set_cons_zero, List.set_cons_succ]) | (refine plan_take (v := ?_) rfl rfl ?_ ?_; rotate_left; (focus (intro w0; go_simp; try with_reducible rfl)); simp only [List.getElem_toArray, List.getElem_cons_succ, List.getElem_cons_zero, Act.put, List.setIfInBounds_toArray, List.set_cons_zero, List.set_cons_succ]) | (refine plan_held (v := ?_) rfl rfl (⟨HQ5.out, HR5.out⟩) ?_ ?_; rotate_left; (focus (intro w0 hSw; (try dsimp only at hSw); go_split_ands; go_simp; try with_reducible rfl)); simp only [List.getElem_toArray, List.getElem_cons_succ, List.getElem_cons_zero, Act.put, List.setIfInBounds_toArray, List.set_cons_zero, List.set_cons_succ])  | (refine plan_skip1 rfl rfl (⟨HQ5.out, HR5.out⟩) ?_; simp only [List.getElem_toArray, List.getElem_cons_succ, List.getElem_cons_zero, Act.put, List.setIfInBounds_toArray, List.set_cons_zero, List.set_cons_succ]))
              (refine plan_held (v := .agg (r.c (sv i)).toArray) rfl rfl (⟨HQ5.out, HR5.out⟩) (fun w0 h0 => exec_load_mid _ _ rfl gl (i * 20) rfl (r.c (sv i)) _ w0 h0.2 Try.underlying38 rfl HRZ.out) ?_; try simp only [List.getElem_toArray, List.getElem_cons_succ, List.getElem_cons_zero, Act.put, List.setIfInBounds_toArray, List.set_cons_zero, List.set_cons_succ])
              repeat (first | (refine plan_skip rfl rfl ?_; simp only [List.getElem_toArray, List.getElem_cons_succ, List.getElem_cons_zero, Act.put, List.setIfInBounds_toArray, List.set_cons_zero, List.set_cons_succ]) | (refine plan_pass2 rfl rfl ?_; simp only [List.getElem_toArray, List.getElem_cons_succ, List.getElem_cons_zero, Act.put, List.setIfInBounds_toArray, List.set_cons_zero, List.set_cons_succ]) | (refine plan_pass3 rfl rfl ?_; simp only [List.getElem_toArray, List.getElem_cons_succ, List.getElem_cons_zero, Act.put, List.setIfInBounds_toArray, List.set_cons_zero, List.set_cons_succ]) | (refine plan_take (v := ?_) rfl rfl ?_ ?_; rotate_left; (focus (intro w0; go_simp; try with_reducible rfl)); simp only [List.getElem_toArray, List.getElem_cons_succ, List.getElem_cons_zero, Act.put, List.setIfInBounds_toArray, List.set_cons_zero, List.set_cons_succ]) | (refine plan_held (v := ?_) rfl rfl (⟨HQ5.out, HR5.out⟩) ?_ ?_; rotate_left; (focus (intro w0 hSw; (try dsimp only at hSw); go_split_ands; go_simp; try with_reducible rfl)); simp only [List.getElem_toArray, List.getElem_cons_succ, List.getElem_cons_zero, Act.put, List.setIfInBounds_toArray, List.set_cons_zero, List.set_cons_succ])  | (refine plan_skip1 rfl rfl (⟨HQ5.out, HR5.out⟩) ?_; simp only [List.getElem_toArray, List.getElem_cons_succ, List.getElem_cons_zero, Act.put, List.setIfInBounds_toArray, List.set_cons_zero, List.set_cons_succ]))
              (refine plan_end rfl rfl rfl fun K hK => ?_; (try simp only [List.getElem_toArray, List.getElem_cons_succ, List.getElem_cons_zero]))
              go_simp
              refine (refCompare_any q r (svo k) (sv i) HQO.out HO.out _).mono ?_; rintro e w6 ⟨rfl, hm6'⟩
              have HK6 := Lib.hid (HK5.out.keep ((Mod.refl (fun _ => False) w5).drew.trans hm6' fun _ f => f.elim))
              refine hK _ _ ?_
              clear hK K hm6'
              rw [HC.out]
              try simp only [List.getElem_toArray, List.getElem_cons_succ, List.getElem_cons_zero, Act.put, List.setIfInBounds_toArray, List.set_cons_zero, List.set_cons_succ]
              repeat (first | (refine plan_skip rfl rfl ?_; simp only [List.getElem_toArray, List.getElem_cons_succ, List.getElem_cons_zero, Act.put, List.setIfInBounds_toArray, List.set_cons_zero, List.set_cons_succ]) | (refine plan_pass2 rfl rfl ?_; simp only [List.getElem_toArray, List.getElem_cons_succ, List.getElem_cons_zero, Act.put, List.setIfInBounds_toArray, List.set_cons_zero, List.set_cons_succ]) | (refine plan_pass3 rfl rfl ?_; simp only [List.getElem_toArray, List.getElem_cons_succ, List.getElem_cons_zero, Act.put, List.setIfInBounds_toArray, List.set_cons_zero, List.set_cons_succ]) | (refine plan_take (v := ?_) rfl rfl ?_ ?_; rotate_left; (focus (intro w0; go_simp; try with_reducible rfl)); simp only [List.getElem_toArray, List.getElem_cons_succ, List.getElem_cons_zero, Act.put, List.setIfInBounds_toArray, List.set_cons_zero, List.set_cons_succ]) | fail )
              refine plan_nil ?_
              go_wp2
              go_roundw
              case rel => exact ⟨k + 1, by omega, by rw [HAT.out, if_neg (by rw [HC.out]; decide)], by rw [HTW.out, HC.out]; rfl, by go_num, HK6.out⟩
              case measure => simp [intOf]; omega
          · have HC := Lib.hid hc
            clear hc
            cases T with
            | true =>
              rw [HC.out]
              repeat (first | (refine plan_skip rfl rfl ?_; simp only [List.getElem_toArray, List.getElem_cons_succ, List.getElem_cons_zero, Act.put, List.setIfInBounds_toArray, List.set_cons_zero, List.set_cons_succ]) | (refine plan_pass2 rfl rfl ?_; simp only [List.getElem_toArray, List.getElem_cons_succ, List.getElem_cons_zero, Act.put, List.setIfInBounds_toArray, List.set_cons_zero, List.set_cons_succ]) | (refine plan_pass3 rfl rfl ?_; simp only [List.getElem_toArray, List.getElem_cons_succ, List.getElem_cons_zero, Act.put, List.setIfInBounds_toArray, List.set_cons_zero, List.set_cons_succ]) | (refine plan_take (v := ?_) rfl rfl ?_ ?_; rotate_left; (focus (intro w0; go_simp; try with_reducible rfl)); simp only [List.getElem_toArray, List.getElem_cons_succ, List.getElem_cons_zero, Act.put, List.setIfInBounds_toArray, List.set_cons_zero, List.set_cons_succ]) | (refine plan_held (v := ?_) rfl rfl (⟨HQ5.out, HR5.out⟩) ?_ ?_; rotate_left; (focus (intro w0 hSw; (try dsimp only at hSw); go_split_ands; go_simp; try with_reducible rfl)); simp only [List.getElem_toArray, List.getElem_cons_succ, List.getElem_cons_zero, Act.put, List.setIfInBounds_toArray, List.set_cons_zero, List.set_cons_succ])  | (refine plan_skip1 rfl rfl (⟨HQ5.out, HR5.out⟩) ?_; simp only [List.getElem_toArray, List.getElem_cons_succ, List.getElem_cons_zero, Act.put, List.setIfInBounds_toArray, List.set_cons_zero, List.set_cons_succ]))
              refine plan_nil ?_
              go_wp2_with fail
              refine wp_region_plan [10] [(0, 0), (1, 0), (2, 0), (3, 0), (4, 0), (5, 1), (6, 0), (7, 0), (8, 0), (9, 1), (10, 3), (11, 0), (12, 0), (13, 0)] (fun w' : World => w'.rangeAt g3 (k * 20) (q.c (svo k)) ∧ w'.rangeAt gl (i * 20) (r.c (sv i))) (by kernel_rfl) (by kernel_rfl) (fun d _ _ _ _ h => by cases d <;> exact h) ?_
              repeat (first | (refine plan_skip rfl rfl ?_; simp only [List.getElem_toArray, List.getElem_cons_succ, List.getElem_cons_zero, Act.put, List.setIfInBounds_toArray, List.set_cons_zero, List.set_cons_succ]) | (refine plan_pass2 rfl rfl ?_; simp only [List.getElem_toArray, List.getElem_cons_succ, List.getElem_cons_zero, Act.put, List.setIfInBounds_toArray, List.set_cons_zero, List.set_cons_succ]) | (refine plan_pass3 rfl rfl ?_; simp only [List.getElem_toArray, List.getElem_cons_succ, List.getElem_cons_zero, Act.put, List.setIfInBounds_toArray, List.set_cons_zero, List.set_cons_succ]) | (refine plan_take (v := ?_) rfl rfl ?_ ?_; rotate_left; (focus (intro w0; go_simp; try with_reducible rfl)); simp only [List.getElem_toArray, List.getElem_cons_succ, List.getElem_cons_zero, Act.put, List.setIfInBounds_toArray, List.set_cons_zero, List.set_cons_succ]) | (refine plan_held (v := ?_) rfl rfl (⟨HQ5.out, HR5.out⟩) ?_ ?_; rotate_left; (focus (intro w0 hSw; (try dsimp only at hSw); go_split_ands; go_simp; try with_reducible rfl)); simp only [List.getElem_toArray, List.getElem_cons_succ, List.getElem_cons_zero, Act.put, List.setIfInBounds_toArray, List.set_cons_zero, List.set_cons_succ])  | (refine plan_skip1 rfl rfl (⟨HQ5.out, HR5.out⟩) ?_; simp only [List.getElem_toArray, List.getElem_cons_succ, List.getElem_cons_zero, Act.put, List.setIfInBounds_toArray, List.set_cons_zero, List.set_cons_succ]))
              refine plan_nil ?_
              go_wp2
              go_roundw
              case rel => exact ⟨k + 1, by omega, by rw [HAT.out, if_neg (by rw [HC.out]; decide)], by rw [HTW.out, HC.out]; rfl, by go_num, HK5.out.keep (Mod.refl _ _).drew⟩
              case measure => simp [intOf]; omega
            | false =>
              rw [HC.out]
              repeat (first | (refine plan_skip rfl rfl ?_; simp only [List.getElem_toArray, List.getElem_cons_succ, List.getElem_cons_zero, Act.put, List.setIfInBounds_toArray, List.set_cons_zero, List.set_cons_succ]) | (refine plan_pass2 rfl rfl ?_; simp only [List.getElem_toArray, List.getElem_cons_succ, List.getElem_cons_zero, Act.put, List.setIfInBounds_toArray, List.set_cons_zero, List.set_cons_succ]) | (refine plan_pass3 rfl rfl ?_; simp only [List.getElem_toArray, List.getElem_cons_succ, List.getElem_cons_zero, Act.put, List.setIfInBounds_toArray, List.set_cons_zero, List.set_cons_succ]) | (refine plan_take (v := ?_) rfl rfl ?_ ?_; rotate_left; (focus (intro w0; go_simp; try with_reducible rfl)); simp only [List.getElem_toArray, List.getElem_cons_succ, List.getElem_cons_zero, Act.put, List.setIfInBounds_toArray, List.set_cons_zero, List.set_cons_succ]) | (refine plan_held (v := ?_) rfl rfl (⟨HQ5.out, HR5.out⟩) ?_ ?_; rotate_left; (focus (intro w0 hSw; (try dsimp only at hSw); go_split_ands; go_simp; try with_reducible rfl)); simp only [List.getElem_toArray, List.getElem_cons_succ, List.getElem_cons_zero, Act.put, List.setIfInBounds_toArray, List.set_cons_zero, List.set_cons_succ])  | (refine plan_skip1 rfl rfl (⟨HQ5.out, HR5.out⟩) ?_; simp only [List.getElem_toArray, List.getElem_cons_succ, List.getElem_cons_zero, Act.put, List.setIfInBounds_toArray, List.set_cons_zero, List.set_cons_succ]))
              refine plan_nil ?_
              go_wp2_with fail
              refine wp_region_plan [10] [(0, 0), (1, 0), (2, 0), (3, 0), (4, 0), (5, 1), (6, 0), (7, 0), (8, 0), (9, 1), (10, 3), (11, 0), (12, 0), (13, 0)] (fun w' : World => w'.rangeAt g3 (k * 20) (q.c (svo k)) ∧ w'.rangeAt gl (i * 20) (r.c (sv i))) (by kernel_rfl) (by kernel_rfl) (fun d _ _ _ _ h => by cases d <;> exact h) ?_
              repeat (first | (refine plan_skip rfl rfl ?_; simp only [List.getElem_toArray, List.getElem_cons_succ, List.getElem_cons_zero, Act.put, List.setIfInBounds_toArray, List.set_cons_zero, List.set_cons_succ]) | (refine plan_pass2 rfl rfl ?_; simp only [List.getElem_toArray, List.getElem_cons_succ, List.getElem_cons_zero, Act.put, List.setIfInBounds_toArray, List.set_cons_zero, List.set_cons_succ]) | (refine plan_pass3 rfl rfl ?_; simp only [List.getElem_toArray, List.getElem_cons_succ, List.getElem_cons_zero, Act.put, List.setIfInBounds_toArray, List.set_cons_zero, List.set_cons_succ]) | (refine plan_take (v := ?_) rfl rfl ?_ ?_; rotate_left; (focus (intro w0; go_simp; try with_reducible rfl)); simp only [List.getElem_toArray, List.getElem_cons_succ, List.getElem_cons_zero, Act.put, List.setIfInBounds_toArray, List.set_cons_zero, List.set_cons_succ]) | (refine plan_held (v := ?_) rfl rfl (⟨HQ5.out, HR5.out⟩) ?_ ?_; rotate_left; (focus (intro w0 hSw; (try dsimp only at hSw); go_split_ands; go_simp; try with_reducible rfl)); simp only [List.getElem_toArray, List.getElem_cons_succ, List.getElem_cons_zero, Act.put, List.setIfInBounds_toArray, List.set_cons_zero, List.set_cons_succ])  | (refine plan_skip1 rfl rfl (⟨HQ5.out, HR5.out⟩) ?_; simp only [List.getElem_toArray, List.getElem_cons_succ, List.getElem_cons_zero, Act.put, List.setIfInBounds_toArray, List.set_cons_zero, List.set_cons_succ]))
              (refine plan_held (v := .agg (q.c (svo k)).toArray) rfl rfl (⟨HQ5.out, HR5.out⟩) (fun w0 h0 => exec_load_mid _ _ rfl g3 (k * 20) rfl (q.c (svo k)) _ w0 h0.1 Try.underlying38 rfl HQZ.out) ?_; try simp only [List.getElem_toArray, List.getElem_cons_succ, List.getElem_cons_zero, Act.put, List.setIfInBounds_toArray, List.set_cons_zero, List.set_cons_succ])
              repeat (first | (refine plan_skip rfl rfl ?_; simp only [List.getElem_toArray, List.getElem_cons_succ, List.getElem_cons_zero, Act.put, List.setIfInBounds_toArray, List.set_cons_zero, List.set_cons_succ]) | (refine plan_pass2 rfl rfl ?_; simp only [List.getElem_toArray, List.getElem_cons_succ, List.getElem_cons_zero, Act.put, List.setIfInBounds_toArray, List.set_cons_zero, List.set_cons_succ]) | (refine plan_pass3 rfl rfl ?_; simp only [List.getElem_toArray, List.getElem_cons_succ, List.getElem_cons_zero, Act.put, List.setIfInBounds_toArray, List.set_cons_zero, List.set_cons_succ]) | (refine plan_take (v := ?_) rfl rfl ?_ ?_; rotate_left; (focus (intro w0; go_simp; try with_reducible rfl)); simp only [List.getElem_toArray, List.getElem_cons_succ, List.getElem_cons_zero, Act.put, List.setIfInBounds_toArray, List.set_cons_zero, List.set_cons_succ]) | (refine plan_held (v := ?_) rfl rfl (⟨HQ5.out, HR5.out⟩) ?_ ?_; rotate_left; (focus (intro w0 hSw; (try dsimp only at hSw); go_split_ands; go_simp; try with_reducible rfl)); simp only [List.getElem_toArray, List.getElem_cons_succ, List.getElem_cons_zero, Act.put, List.setIfInBounds_toArray, List.set_cons_zero, List.set_cons_succ])  | (refine plan_skip1 rfl rfl (⟨HQ5.out, HR5.out⟩) ?_; simp only [List.getElem_toArray, List.getElem_cons_succ, List.getElem_cons_zero, Act.put, List.setIfInBounds_toArray, List.set_cons_zero, List.set_cons_succ]))
              (refine plan_held (v := .agg (r.c (sv i)).toArray) rfl rfl (⟨HQ5.out, HR5.out⟩) (fun w0 h0 => exec_load_mid _ _ rfl gl (i * 20) rfl (r.c (sv i)) _ w0 h0.2 Try.underlying38 rfl HRZ.out) ?_; try simp only [List.getElem_toArray, List.getElem_cons_succ, List.getElem_cons_zero, Act.put, List.setIfInBounds_toArray, List.set_cons_zero, List.set_cons_succ])
              repeat (first | (refine plan_skip rfl rfl ?_; simp only [List.getElem_toArray, List.getElem_cons_succ, List.getElem_cons_zero, Act.put, List.setIfInBounds_toArray, List.set_cons_zero, List.set_cons_succ]) | (refine plan_pass2 rfl rfl ?_; simp only [List.getElem_toArray, List.getElem_cons_succ, List.getElem_cons_zero, Act.put, List.setIfInBounds_toArray, List.set_cons_zero, List.set_cons_succ]) | (refine plan_pass3 rfl rfl ?_; simp only [List.getElem_toArray, List.getElem_cons_succ, List.getElem_cons_zero, Act.put, List.setIfInBounds_toArray, List.set_cons_zero, List.set_cons_succ]) | (refine plan_take (v := ?_) rfl rfl ?_ ?_; rotate_left; (focus (intro w0; go_simp; try with_reducible rfl)); simp only [List.getElem_toArray, List.getElem_cons_succ, List.getElem_cons_zero, Act.put, List.setIfInBounds_toArray, List.set_cons_zero, List.set_cons_succ]) | (refine plan_held (v := ?_) rfl rfl (⟨HQ5.out, HR5.out⟩) ?_ ?_; rotate_left; (focus (intro w0 hSw; (try dsimp only at hSw); go_split_ands; go_simp; try with_reducible rfl)); simp only [List.getElem_toArray, List.getElem_cons_succ, List.getElem_cons_zero, Act.put, List.setIfInBounds_toArray, List.set_cons_zero, List.set_cons_succ])  | (refine plan_skip1 rfl rfl (⟨HQ5.out, HR5.out⟩) ?_; simp only [List.getElem_toArray, List.getElem_cons_succ, List.getElem_cons_zero, Act.put, List.setIfInBounds_toArray, List.set_cons_zero, List.set_cons_succ]))
              (refine plan_end rfl rfl rfl fun K hK => ?_; (try simp only [List.getElem_toArray, List.getElem_cons_succ, List.getElem_cons_zero]))
              go_simp
              refine (refCompare_any q r (svo k) (sv i) HQO.out HO.out _).mono ?_; rintro e w6 ⟨rfl, hm6'⟩
              have HK6 := Lib.hid (HK5.out.keep ((Mod.refl (fun _ => False) w5).drew.trans hm6' fun _ f => f.elim))
              refine hK _ _ ?_
              clear hK K hm6'
              rw [HC.out]
              try simp only [List.getElem_toArray, List.getElem_cons_succ, List.getElem_cons_zero, Act.put, List.setIfInBounds_toArray, List.set_cons_zero, List.set_cons_succ]
              repeat (first | (refine plan_skip rfl rfl ?_; simp only [List.getElem_toArray, List.getElem_cons_succ, List.getElem_cons_zero, Act.put, List.setIfInBounds_toArray, List.set_cons_zero, List.set_cons_succ]) | (refine plan_pass2 rfl rfl ?_; simp only [List.getElem_toArray, List.getElem_cons_succ, List.getElem_cons_zero, Act.put, List.setIfInBounds_toArray, List.set_cons_zero, List.set_cons_succ]) | (refine plan_pass3 rfl rfl ?_; simp only [List.getElem_toArray, List.getElem_cons_succ, List.getElem_cons_zero, Act.put, List.setIfInBounds_toArray, List.set_cons_zero, List.set_cons_succ]) | (refine plan_take (v := ?_) rfl rfl ?_ ?_; rotate_left; (focus (intro w0; go_simp; try with_reducible rfl)); simp only [List.getElem_toArray, List.getElem_cons_succ, List.getElem_cons_zero, Act.put, List.setIfInBounds_toArray, List.set_cons_zero, List.set_cons_succ]) | fail )
              refine plan_nil ?_
              go_wp2
              go_roundw
              case rel => exact ⟨k + 1, by omega, by rw [HAT.out, if_neg (by rw [HC.out]; decide)], by rw [HTW.out, HC.out]; rfl, by go_num, HK6.out⟩
              case measure => simp [intOf]; omega
        · obtain rfl : k = m := by omega
          have HRA := Lib.hid (keepRange HK.out.mod HRW.out)
          have HNR := Lib.hid ((HN.out.keep HK.out.mod fun _ _ f => f).reads)
          obtain ⟨T, hT⟩ : ∃ T, T = twT out r k := ⟨_, rfl⟩
          obtain ⟨A, hA⟩ : ∃ A, A = atT out r k := ⟨_, rfl⟩
          obtain ⟨G, hG⟩ : ∃ G, G = oneT r := ⟨_, rfl⟩
          have hAk : A ≤ k := by rw [hA]; exact atT_le _ _ _
          have HSS : Hid (stepOf out r = if (G && !T) = true then out.take A ++ r :: out.drop A else out) := Lib.hid (by rw [hT, hA, hG, HM.out]; rfl)
          rw [← hT, ← hA]
          have HGG := Lib.hid hG
          clear hT hA hG hkm
          go_wp2_with (refine wpList_load_midG rfl _ _ rfl gl (i * 20) rfl (r.c (sv i)) _ HRA.out Try.underlying38 rfl HRZ.out ?_)
          refine (refOne_any r (sv i) HO.out _ HNR.out).mono ?_; rintro e w5 ⟨rfl, hm5⟩
          rw [← HGG.out]
          have HK5 := Lib.hid (HK.out.keep hm5)
          clear hm5
          cases G with
          | false =>
            go_wp2
            go_roundw
            case rel => exact ⟨i + 1, _, by omega, by go_num, by rw [HST.out, HSS.out]; exact HK5.out⟩
            case measure => simp [intOf]; omega
          | true =>
            cases T with
            | true =>
              go_wp2
              go_roundw
              case rel => exact ⟨i + 1, _, by omega, by go_num, by rw [HST.out, HSS.out]; exact HK5.out⟩
              case measure => simp [intOf]; omega
            | false =>
              have HRA5 := Lib.hid (keepRange HK5.out.mod.drew HRW.out)
              have HOR : Hid (Reads w5 (.slice a3 k c3) k (cellsR svo 0 out)) := Lib.hid (by have h := HK5.out.out.row.reads; rw [← HM.out] at h; exact h)
              have HCL : Hid ((cellsR svo 0 out).length = k * 20) := Lib.hid (by rw [cellsR_len _ _ _ HK5.out.out.ok, HM.out])
              have HC1 : Hid (∀ u ∈ cellsR svo 0 out, u.oneCell' = true) := Lib.hid HK5.out.out.at.one
              have HRO : Hid (∀ u ∈ r.c (sv i), u.oneCell' = true) := Lib.hid (rowC_one _ _ _ _ _ (by obtain ⟨_, _, e, _⟩ := HN.out.form; rw [e]; rfl))
              have HRL : Hid ((r.c (sv i)).length = 20) := Lib.hid (by rw [TRow.c, rowC_len _ _ _ _ _ HO.out.1])
              have HS : Hid (∀ W : World, Mod (fun _ => False) w5 W → W.rangeAt gl (i * 20) (r.c (sv i))) := Lib.hid fun W hW => keepRange hW (show w5.rangeAt gl (i * 20) (r.c (sv i)) from HRA5.out)
              go_wp2_with fail
              refine wp_region_T [9] (.c 1 0 (.c 2 0 (.c 3 0 (.c 5 0 (.c 6 0 (.c 7 0 (.c 8 1 (.c 11 0 (.c 12 0 (.c 13 0 (.f 0 9 (.f 4 9 (.c 9 2 (.c 10 2 (.c 14 2 (.c 15 0 .n)))) (.c 4 2 (.c 10 2 (.c 14 2 (.c 15 0 .n))))) (.c 0 2 (.c 4 2 (.c 10 2 (.c 14 2 (.c 15 0 .n)))))))))))))))) (fun w' : World => w'.rangeAt gl (i * 20) (r.c (sv i))) (by kernel_rfl) (by kernel_rfl) (fun d _ _ _ _ h => by cases d <;> exact h) ?_
              repeat (first | (refine T_take (v := ?_) rfl rfl ?_ ?_; rotate_left; (focus (intro w0; go_simp; try with_reducible rfl)); simp only [List.getElem_toArray, List.getElem_cons_succ, List.getElem_cons_zero, Act.put, List.setIfInBounds_toArray, List.set_cons_zero, List.set_cons_succ]))
              refine T_take (v := hiV (.slice a3 k c3) A) rfl rfl (fun w0 => exec_slice_hi Try.elRow rfl HOR.out rfl A rfl hAk w0) ?_
              try simp only [List.getElem_toArray, List.getElem_cons_succ, List.getElem_cons_zero, Act.put, List.setIfInBounds_toArray, List.set_cons_zero, List.set_cons_succ]
              repeat (first | (refine T_take (v := ?_) rfl rfl ?_ ?_; rotate_left; (focus (intro w0; go_simp; try with_reducible rfl)); simp only [List.getElem_toArray, List.getElem_cons_succ, List.getElem_cons_zero, Act.put, List.setIfInBounds_toArray, List.set_cons_zero, List.set_cons_succ]))
              refine T_held (v := .agg (r.c (sv i)).toArray) rfl rfl (HS.out _ (Mod.refl _ _).drew) (fun w0 h0 => exec_load_mid _ _ rfl gl (i * 20) rfl (r.c (sv i)) _ w0 h0 Try.underlying38 rfl HRZ.out) ?_
              try simp only [List.getElem_toArray, List.getElem_cons_succ, List.getElem_cons_zero, Act.put, List.setIfInBounds_toArray, List.set_cons_zero, List.set_cons_succ]
              refine T_take (v := .slice a3 k c3) rfl rfl (by intro w0; go_simp) ?_
              try simp only [List.getElem_toArray, List.getElem_cons_succ, List.getElem_cons_zero, Act.put, List.setIfInBounds_toArray, List.set_cons_zero, List.set_cons_succ]
              refine T_take (v := .int .i64 (A : Int)) rfl rfl (by intro w0; go_simp) ?_
              try simp only [List.getElem_toArray, List.getElem_cons_succ, List.getElem_cons_zero, Act.put, List.setIfInBounds_toArray, List.set_cons_zero, List.set_cons_succ]
              refine T_take (v := loV 20 (.slice a3 k c3) A) rfl rfl (fun w0 => exec_slice_lo Try.elRow rfl HOR.out rfl A rfl hAk w0) ?_
              try simp only [List.getElem_toArray, List.getElem_cons_succ, List.getElem_cons_zero, Act.put, List.setIfInBounds_toArray, List.set_cons_zero, List.set_cons_succ]
              (refine T_fork rfl rfl rfl rfl (fun K hK => ?fa) (fun K hK => ?fb) <;> (try simp only [List.getElem_toArray, List.getElem_cons_succ, List.getElem_cons_zero]))
              case' fa =>
                refine wp_build0 Try.elRow rfl ?_
                intro W0 v0 HV0 HM0
                have HMW0 := Lib.hid HM0.out.ofDrew
                refine hK _ _ (HS.out _ HMW0.out) ?_
                clear hK K
                try simp only [List.getElem_toArray, List.getElem_cons_succ, List.getElem_cons_zero, Act.put, List.setIfInBounds_toArray, List.set_cons_zero, List.set_cons_succ]
                (refine T_fork rfl rfl rfl rfl (fun K hK => ?fc) (fun K hK => ?fd) <;> (try simp only [List.getElem_toArray, List.getElem_cons_succ, List.getElem_cons_zero]))
                case' fc =>
                  refine wp_append_reads Try.elRow (.tmp 55) (.tmp 58) rfl (fun q => w5.heap.size ≤ q) v0 0 [] rfl HV0.out (hiV (.slice a3 k c3) A) A ((cellsR svo 0 out).take (A * 20)) rfl ((HOR.out.keep0 HMW0.out).hi A 20 hAk) (by rw [List.length_take, HCL.out]; omega) (fun u hu => HC1.out u (List.mem_of_mem_take hu)) (by omega) (by unfold maxLen; omega) ?_
                  intro v1 W1 h2 h3
                  rw [Nat.zero_add, List.nil_append] at h2
                  have HMW1 : Hid (Mod (fun _ => False) w5 W1) := Lib.hid (HMW0.out.trans h3 fun q hq => .inr hq)
                  refine hK _ _ (HS.out _ HMW1.out) ?_
                  clear hK K h3
                  try simp only [List.getElem_toArray, List.getElem_cons_succ, List.getElem_cons_zero, Act.put, List.setIfInBounds_toArray, List.set_cons_zero, List.set_cons_succ]
                  (refine T_do rfl rfl fun K hK => ?_; (try simp only [List.getElem_toArray, List.getElem_cons_succ, List.getElem_cons_zero]))
                  refine wp_build1H Try.elRow _ rfl (r.c (sv i)) rfl HRL.out (by decide) (by decide) ?_
                  intro W b HB hbW HM
                  have HMW : Hid (Mod (fun _ => False) w5 W) := Lib.hid (HMW1.out.trans HM.out fun _ f => f.elim)
                  have HV1 : Hid (Row W (fun q => w5.heap.size ≤ q ∧ q ≠ b) 38 20 v1 A ((cellsR svo 0 out).take (A * 20))) := Lib.hid ((show Row W1 (fun q => w5.heap.size ≤ q ∧ q ≠ b) _ _ _ _ _ from ⟨h2.1, fun g hg => ⟨(h2.2 g hg).elim (fun h => h) fun h => Nat.le_trans HMW0.out.size h, by have := h2.lt g hg; omega⟩⟩).keep HM.out fun _ _ f => f)
                  refine hK _ _ (HS.out _ HMW.out) ?_
                  clear hK K h2 HM HMW1 HMW0 HM0 HV0 hbW
                  try simp only [List.getElem_toArray, List.getElem_cons_succ, List.getElem_cons_zero, Act.put, List.setIfInBounds_toArray, List.set_cons_zero, List.set_cons_succ]
                case' fd =>
                  refine wp_build1H Try.elRow _ rfl (r.c (sv i)) rfl HRL.out (by decide) (by decide) ?_
                  intro W1 b HB1 hbW HM
                  have HMW1 : Hid (Mod (fun _ => False) w5 W1) := Lib.hid (HMW0.out.trans HM.out fun _ f => f.elim)
                  have HV1a : Hid (Row W1 (fun q => w5.heap.size ≤ q ∧ q ≠ b) 38 20 v0 0 []) := Lib.hid ((show Row W0 (fun q => w5.heap.size ≤ q ∧ q ≠ b) _ _ _ _ _ from ⟨HV0.out.1, fun g hg => ⟨HV0.out.2 g hg, by have := HV0.out.lt g hg; omega⟩⟩).keep HM.out fun _ _ f => f)
                  refine hK _ _ (HS.out _ HMW1.out) ?_
                  clear hK K HM
                  try simp only [List.getElem_toArray, List.getElem_cons_succ, List.getElem_cons_zero, Act.put, List.setIfInBounds_toArray, List.set_cons_zero, List.set_cons_succ]
                  (refine T_do rfl rfl fun K hK => ?_; (try simp only [List.getElem_toArray, List.getElem_cons_succ, List.getElem_cons_zero]))
                  refine wp_append_reads Try.elRow (.tmp 55) (.tmp 58) rfl (fun q => w5.heap.size ≤ q ∧ q ≠ b) v0 0 [] rfl HV1a.out (hiV (.slice a3 k c3) A) A ((cellsR svo 0 out).take (A * 20)) rfl ((HOR.out.keep0 HMW1.out).hi A 20 hAk) (by rw [List.length_take, HCL.out]; omega) (fun u hu => HC1.out u (List.mem_of_mem_take hu)) (by omega) (by unfold maxLen; omega) ?_
                  intro v1 W h2 h3
                  rw [Nat.zero_add, List.nil_append] at h2
                  have HMW : Hid (Mod (fun _ => False) w5 W) := Lib.hid (HMW1.out.trans h3 fun q hq => .inr hq.1)
                  have HB : Hid (Blk W b 38 (r.c (sv i))) := Lib.hid (HB1.out.keep h3 fun h => h.2 rfl)
                  have HV1 : Hid (Row W (fun q => w5.heap.size ≤ q ∧ q ≠ b) 38 20 v1 A ((cellsR svo 0 out).take (A * 20))) := Lib.hid (h2.mono fun q hq => hq.elim (fun h => h) fun h => ⟨Nat.le_trans HMW1.out.size h, by have := HB1.out.lt; omega⟩)
                  refine hK _ _ (HS.out _ HMW.out) ?_
                  clear hK K h2 h3 HMW1 HMW0 HM0 HV0 hbW HV1a HB1
                  try simp only [List.getElem_toArray, List.getElem_cons_succ, List.getElem_cons_zero, Act.put, List.setIfInBounds_toArray, List.set_cons_zero, List.set_cons_succ]
              case' fb =>
                refine wp_build1H Try.elRow _ rfl (r.c (sv i)) rfl HRL.out (by decide) (by decide) ?_
                intro W0 b HB0 hbW HM0
                have HMW0 := Lib.hid HM0.out.ofDrew
                refine hK _ _ (HS.out _ HMW0.out) ?_
                clear hK K HM0
                try simp only [List.getElem_toArray, List.getElem_cons_succ, List.getElem_cons_zero, Act.put, List.setIfInBounds_toArray, List.set_cons_zero, List.set_cons_succ]
                (refine T_do rfl rfl fun K hK => ?_; (try simp only [List.getElem_toArray, List.getElem_cons_succ, List.getElem_cons_zero]))
                refine wp_build0 Try.elRow rfl ?_
                intro W1 v0 HV0 HM
                have HMW1 : Hid (Mod (fun _ => False) w5 W1) := Lib.hid (HMW0.out.trans HM.out fun _ f => f.elim)
                have HB1 : Hid (Blk W1 b 38 (r.c (sv i))) := Lib.hid (HB0.out.keep HM.out fun f => f)
                have HV1a : Hid (Row W1 (fun q => w5.heap.size ≤ q ∧ q ≠ b) 38 20 v0 0 []) := Lib.hid (HV0.out.mono fun q hq => ⟨Nat.le_trans HMW0.out.size hq, by have := HB0.out.lt; omega⟩)
                refine hK _ _ (HS.out _ HMW1.out) ?_
                clear hK K HM
                try simp only [List.getElem_toArray, List.getElem_cons_succ, List.getElem_cons_zero, Act.put, List.setIfInBounds_toArray, List.set_cons_zero, List.set_cons_succ]
                (refine T_do rfl rfl fun K hK => ?_; (try simp only [List.getElem_toArray, List.getElem_cons_succ, List.getElem_cons_zero]))
                refine wp_append_reads Try.elRow (.tmp 55) (.tmp 58) rfl (fun q => w5.heap.size ≤ q ∧ q ≠ b) v0 0 [] rfl HV1a.out (hiV (.slice a3 k c3) A) A ((cellsR svo 0 out).take (A * 20)) rfl ((HOR.out.keep0 HMW1.out).hi A 20 hAk) (by rw [List.length_take, HCL.out]; omega) (fun u hu => HC1.out u (List.mem_of_mem_take hu)) (by omega) (by unfold maxLen; omega) ?_
                intro v1 W h2 h3
                rw [Nat.zero_add, List.nil_append] at h2
                have HMW : Hid (Mod (fun _ => False) w5 W) := Lib.hid (HMW1.out.trans h3 fun q hq => .inr hq.1)
                have HB : Hid (Blk W b 38 (r.c (sv i))) := Lib.hid (HB1.out.keep h3 fun h => h.2 rfl)
                have HV1 : Hid (Row W (fun q => w5.heap.size ≤ q ∧ q ≠ b) 38 20 v1 A ((cellsR svo 0 out).take (A * 20))) := Lib.hid (h2.mono fun q hq => hq.elim (fun h => h) fun h => ⟨Nat.le_trans HMW1.out.size h, by have := HB1.out.lt; omega⟩)
                refine hK _ _ (HS.out _ HMW.out) ?_
                clear hK K h2 h3 HMW1 HMW0 HV0 hbW HV1a HB1 HB0
                try simp only [List.getElem_toArray, List.getElem_cons_succ, List.getElem_cons_zero, Act.put, List.setIfInBounds_toArray, List.set_cons_zero, List.set_cons_succ]
              all_goals
                (refine T_do rfl rfl fun K hK => ?_; (try simp only [List.getElem_toArray, List.getElem_cons_succ, List.getElem_cons_zero]))
                refine wp_append_reads Try.elRow (.tmp 59) (.tmp 64) rfl (fun q => w5.heap.size ≤ q ∧ q ≠ b) v1 A ((cellsR svo 0 out).take (A * 20)) rfl HV1.out (.slice (some ⟨b, 0, none⟩) 1 1) 1 (r.c (sv i)) rfl HB.out.reads1 (by rw [HRL.out]) HRO.out (by omega) (by unfold maxLen; omega) ?_
                intro v2 W2 h4 h5
                have HMW2 : Hid (Mod (fun _ => False) w5 W2) := Lib.hid (HMW.out.trans h5 fun q hq => .inr hq.1)
                have HV2 : Hid (Row W2 (fun q => w5.heap.size ≤ q) 38 20 v2 (A + 1) ((cellsR svo 0 out).take (A * 20) ++ r.c (sv i))) := Lib.hid (h4.mono fun q hq => hq.elim (fun h => h.1) fun h => Nat.le_trans HMW.out.size h)
                refine hK _ _ (HS.out _ HMW2.out) ?_
                clear hK K h4 h5
                try simp only [List.getElem_toArray, List.getElem_cons_succ, List.getElem_cons_zero, Act.put, List.setIfInBounds_toArray, List.set_cons_zero, List.set_cons_succ]
                (refine T_do rfl rfl fun K hK => ?_; (try simp only [List.getElem_toArray, List.getElem_cons_succ, List.getElem_cons_zero]))
                refine wp_append_reads Try.elRow (.tmp 65) (.tmp 68) rfl (fun q => w5.heap.size ≤ q) v2 (A + 1) ((cellsR svo 0 out).take (A * 20) ++ r.c (sv i)) rfl HV2.out (loV 20 (.slice a3 k c3) A) (k - A) ((cellsR svo 0 out).drop (A * 20)) rfl ((HOR.out.keep0 HMW2.out).lo A 20 hAk) (by rw [List.length_drop, HCL.out]; omega) (fun u hu => HC1.out u (List.mem_of_mem_drop hu)) (by omega) (by unfold maxLen; omega) ?_
                intro v3 W3 h6 h7
                have HMW3 : Hid (Mod (fun _ => False) w5 W3) := Lib.hid (HMW2.out.trans h7 fun q hq => .inr hq)
                have HJ2 : Hid (OfJ f w W3 v3 (out.take A ++ r :: out.drop A) (insV svo A (sv i))) := Lib.hid ⟨HK5.out.out.ins (by rw [← HM.out]; exact hAk) HO.out HMW3.out ((HN.out.keep HK5.out.mod fun _ _ f => f).mono fun q hq => .inl hq) (fun _ h => h) (n := A + 1 + (k - A)) (by rw [← HM.out]; omega) (h6.mono fun q hq => .inr (Nat.le_trans HK5.out.mod.size (hq.elim (fun h => h) fun h => Nat.le_trans HMW2.out.size h))), HK5.out.mod.trans HMW3.out fun _ f => f.elim⟩
                refine hK _ _ (HS.out _ HMW3.out) ?_
                clear hK K h6 h7 HMW3 HMW2 HV2 HV1 HMW HB
                try simp only [List.getElem_toArray, List.getElem_cons_succ, List.getElem_cons_zero, Act.put, List.setIfInBounds_toArray, List.set_cons_zero, List.set_cons_succ]
                repeat (first | (refine T_take (v := ?_) rfl rfl ?_ ?_; rotate_left; (focus (intro w0; go_simp; try with_reducible rfl)); simp only [List.getElem_toArray, List.getElem_cons_succ, List.getElem_cons_zero, Act.put, List.setIfInBounds_toArray, List.set_cons_zero, List.set_cons_succ]))
                refine T_nil ?_
                go_wp2
                go_roundw
                case rel => exact ⟨i + 1, _, by omega, by go_num, by rw [HST.out, HSS.out]; exact HJ2.out⟩
                case measure => simp [intOf]; omega
    · obtain rfl : i = n := by omega
      have HE : Hid (outI rs i = ofT rs) := Lib.hid (by rw [HL.out]; exact outI_all rs)
      rw [HE.out] at hJ
      have HJ := Lib.hid hJ
      clear hJ
      go_wp2
      go_ret
      exact ⟨_, svo, rfl, HJ.out.out, HJ.out.mod⟩
end Go.Proofs.Ytegjamjognpdkaa
