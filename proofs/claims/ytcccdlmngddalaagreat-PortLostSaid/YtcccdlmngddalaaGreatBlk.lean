/- A block of cells, known whole: what is written into it, what is read of it; copy from a text; a result that lies in a block. -/
import Derived.Test.YtcccdlmngddalaaGreatRng
import Derived.Laws.CopyRow
import Derived.Laws.CopyOwn
import Derived.Laws.ResultCell
set_option linter.unusedVariables false
set_option linter.unusedSimpArgs false
namespace Go.Proofs.YtcccdlmngddalaaGreat
open Go.RowKit
def Blk (w : World) (g : Nat) (t : TypeId) (cs : List Value) : Prop := w.heap[g]? = some (.cells cs.toArray t (0, 0))
section
variable {w w' : World} {g : Nat} {t : TypeId} {cs : List Value}
theorem Blk.keep {F : Nat → Prop} (h : Blk w g t cs) (hm : Mod F w w') (hn : ¬ F g) : Blk w' g t cs := Mod.keep hm h hn
theorem Blk.alloc (h : Blk w g t cs) (o : Obj) : Blk (w.alloc o) g t cs := allocFar h
theorem Blk.drew (h : Blk w g t cs) : Blk w.drew g t cs := h
theorem Blk.lt (h : Blk w g t cs) : g < w.heap.size := lt_of_block h
theorem Blk.cell (h : Blk w g t cs) {j : Nat} {u : Value} (hj : cs[j]? = some u) : w.cell? ⟨g, j, none⟩ = some u := by rw [cellOf h]; simpa using hj
theorem Blk.free (h : Blk w g t cs) (j : Nat) : w.frozen? ⟨g, j, none⟩ = false := freeOf h j
theorem Blk.range (h : Blk w g t cs) (o n : Nat) : w.rangeAt g o ((cs.drop o).take n) := subRange o n (rangeOf h)
theorem Blk.set (h : Blk w g t cs) (j : Nat) (u : Value) : Blk (w.setCell ⟨g, j, none⟩ u) g t (cs.set j u) := by
  have := setOf h j u
  unfold Blk
  rw [this]
  simp
theorem Blk.new (w : World) (t : TypeId) (cs : List Value) : Blk (w.alloc (.cells cs.toArray t (0, 0))) w.heap.size t cs := allocNew w _
theorem Mod.setRow {F : Nat → Prop} {a : World} (h : Mod F a w) (hg : F g ∨ a.heap.size ≤ g) (cur : Array Value) : Mod F a (w.setRow g cur) :=
  h.trans (G := fun k => k = g) ⟨rfl, rfl, rfl, by simp [World.setRow], fun k _ hk => setRow_other w g k _ hk⟩ (fun x hx => hx ▸ hg)
end
section
variable {P : Program} {w : World} {ops : Array Oper} {rest : List Oper} {o : Oper} {a : Act} {Q : Exit → Act → World → Prop}
theorem run_storeAt_blk (ty : TypeId) (g off : Nat) (t : TypeId) (cur cs : List Value) (hg : Blk w g t cur) (hfit : off + cs.length ≤ cur.length) (hi : (P.info? ty).map (·.size) = some cs.length) (h1 : ∀ v ∈ cs, v.oneCell' = true) :
    (Instr.storeAt ty (.pointer (some ⟨g, off, none⟩)) (.agg cs.toArray)).run P w = .ok () (w.setRow g (splice cur off cs).toArray) := by
  have hst := run_storeCells_at P g off t cs 0 cur.toArray w hg (by simpa using hfit) h1
  cases hq : P.info? ty with
  | none => simp [hq] at hi
  | some i =>
    have hi : i.size = cs.length := by simpa [hq] using hi
    simp only [Nat.add_zero] at hst
    simp [Instr.storeAt, Instr.sureAddr, storeVar, sizeOf, typeInfo, hq, hi, Value.cells, hst, splice]
theorem run_storeAt_blk1 (ty : TypeId) (g off : Nat) (t : TypeId) (cur : List Value) (u : Value) (hg : Blk w g t cur) (hfit : off < cur.length) (hi : (P.info? ty).map (·.size) = some 1) (h1 : u.oneCell' = true) :
    (Instr.storeAt ty (.pointer (some ⟨g, off, none⟩)) u).run P w = .ok () (w.setRow g (cur.set off u).toArray) := by
  have hc : u.cells = #[u] := by cases u <;> first | rfl | cases h1
  have hst := run_storeCells_at P g off t [u] 0 cur.toArray w hg (by simp; omega) (by simpa using h1)
  cases hq : P.info? ty with
  | none => simp [hq] at hi
  | some i =>
    have hi : i.size = 1 := by simpa [hq] using hi
    have hs : List.take off cur ++ u :: List.drop (off + 1) cur = cur.set off u := (List.set_eq_take_append_cons_drop ..).trans (if_pos hfit) |>.symm
    simp only [Nat.add_zero] at hst
    simp [Instr.storeAt, Instr.sureAddr, storeVar, sizeOf, typeInfo, hq, hi, hc, hst, hs]
theorem blk_setRow {t : TypeId} {g : Nat} {cur : List Value} (hg : Blk w g t cur) (cs : List Value) : Blk (w.setRow g cs.toArray) g t cs := setRow_heap w g _ _ t _ hg
theorem wpList_store_blk (hgd : o.guard = none) (ty : TypeId) (x y : Operand) (ho : o.op = .store ty x y) (g off : Nat) (t : TypeId) (cur cs : List Value) (hx : a.eval x = .pointer (some ⟨g, off, none⟩)) (hy : a.eval y = .agg cs.toArray)
    (hg : Blk w g t cur) (hfit : off + cs.length ≤ cur.length) (hi : (P.info? ty).map (·.size) = some cs.length) (h1 : ∀ v ∈ cs, v.oneCell' = true)
    (h : ∀ w', Hid (Blk w' g t (splice cur off cs)) → Hid (Mod (fun k => k = g) w w') → wpList P ops Q rest (a.put o.dst undef) w') : wpList P ops Q (o :: rest) a w := by
  refine wpList_plain hgd fun K hK => ?_
  have hrun := run_storeAt_blk (P := P) ty g off t cur cs hg hfit hi h1
  unfold Oper.wp execOp
  simp only [ho, hx, hy, Sem.run_bind, Sem.run_pure, hrun, Result.andThen_ok]
  exact hK _ _ (h _ (show Hid _ from Lib.hid (blk_setRow hg _)) (show Hid _ from Lib.hid ((Mod.refl (fun k => k = g) w).setRow (g := g) (.inl rfl) _)))
theorem wpList_store_blk1 (hgd : o.guard = none) (ty : TypeId) (x y : Operand) (ho : o.op = .store ty x y) (g off : Nat) (t : TypeId) (cur : List Value) (u : Value) (hx : a.eval x = .pointer (some ⟨g, off, none⟩)) (hy : a.eval y = u)
    (hg : Blk w g t cur) (hfit : off < cur.length) (hi : (P.info? ty).map (·.size) = some 1) (h1 : u.oneCell' = true)
    (h : ∀ w', Hid (Blk w' g t (cur.set off u)) → Hid (Mod (fun k => k = g) w w') → wpList P ops Q rest (a.put o.dst undef) w') : wpList P ops Q (o :: rest) a w := by
  refine wpList_plain hgd fun K hK => ?_
  have hrun := run_storeAt_blk1 (P := P) ty g off t cur u hg hfit hi h1
  unfold Oper.wp execOp
  simp only [ho, hx, hy, Sem.run_bind, Sem.run_pure, hrun, Result.andThen_ok]
  exact hK _ _ (h _ (show Hid _ from Lib.hid (blk_setRow hg _)) (show Hid _ from Lib.hid ((Mod.refl (fun k => k = g) w).setRow (g := g) (.inl rfl) _)))
theorem wp_store_blk1 {K : Act → World → Prop} (ty : TypeId) (x y : Operand) (ho : o.op = .store ty x y) (g off : Nat) (t : TypeId) (cur : List Value) (u : Value) (hx : a.eval x = .pointer (some ⟨g, off, none⟩)) (hy : a.eval y = u)
    (hg : Blk w g t cur) (hfit : off < cur.length) (hi : (P.info? ty).map (·.size) = some 1) (h1 : u.oneCell' = true)
    (h : ∀ w', Hid (Blk w' g t (cur.set off u)) → Hid (Mod (fun k => k = g) w w') → K (a.put o.dst undef) w') : o.wp P a w K Q := by
  have hrun := run_storeAt_blk1 (P := P) ty g off t cur u hg hfit hi h1
  unfold Oper.wp execOp
  simp only [ho, hx, hy, Sem.run_bind, Sem.run_pure, hrun, Result.andThen_ok]
  exact h _ (show Hid _ from Lib.hid (blk_setRow hg _)) (show Hid _ from Lib.hid ((Mod.refl (fun k => k = g) w).setRow (g := g) (.inl rfl) _))
theorem wpList_copy_text (hgd : o.guard = none) (d s : Operand) (dT sT : TypeId) (ho : o.op = .call { callee := .builtin .copy, args := #[d, s], argTypes := #[dT, sT] }) (elem : TypeId) (hu : P.underlying dT = some (.slice elem)) (hsz : (P.info? elem).map (·.size) = some 1)
    (g off dLen dCap : Nat) (b : ByteArray) (hd : a.eval d = .slice (some ⟨g, off, none⟩) dLen dCap) (hs : a.eval s = .string b) (t : TypeId) (cur bs : List Value) (hg : Blk w g t cur) (hbs : bs = b.data.toList.map fun x => .int .u8 (x.toNat : Int)) (hn : b.size ≤ dLen) (hfit : off + b.size ≤ cur.length)
    (h : ∀ w', Hid (Blk w' g t (splice cur off bs)) → Hid (Mod (fun k => k = g) w w') → wpList P ops Q rest (a.put o.dst (goInt b.size)) w') : wpList P ops Q (o :: rest) a w := by
  subst hbs
  have hl : (b.data.toList.map fun x => Value.int .u8 (x.toNat : Int)).length = b.size := by simp
  have hst := run_storeCells_at P g off t (b.data.toList.map fun x => Value.int .u8 (x.toNat : Int)) 0 cur.toArray w hg (by rw [hl]; simpa using hfit) (by intro v hv; simp at hv; obtain ⟨b, _, rfl⟩ := hv; rfl)
  have hmin : Nat.min b.size dLen = b.size := Nat.min_eq_left hn
  have ht : List.take b.size (b.data.toList.map fun x => Value.int .u8 (x.toNat : Int)) = b.data.toList.map fun x => Value.int .u8 (x.toNat : Int) := List.take_of_length_le (by simp)
  have hrun : (Builtin.copy_ #[dT, sT] o.type #[.slice (some ⟨g, off, none⟩) dLen dCap, .string b]).run P w = .ok (goInt b.size) (w.setRow g (splice cur off (b.data.toList.map fun x => Value.int .u8 (x.toNat : Int))).toArray) := by
    rw [Nat.add_zero, hl] at hst
    cases hq : P.info? elem with
    | none => simp [hq] at hsz
    | some i =>
      have hi : i.size = 1 := by simpa [hq] using hsz
      simp [Builtin.copy_, run_underlying hu, Builtin.lenOf, Builtin.firstCells, sizeOf, typeInfo, hq, hi, hmin, ht]
      rw [hst]
      simp [splice]
  refine wpList_plain hgd fun K hK => ?_
  unfold Oper.wp
  simp [execOp, ho, resolve, invoke, builtin, hd, hs, hrun, Result.andThen]
  exact hK _ _ (h _ (show Hid _ from Lib.hid (blk_setRow hg _)) (show Hid _ from Lib.hid ((Mod.refl (fun k => k = g) w).setRow (g := g) (.inl rfl) _)))
theorem wpList_load_blk (hw : Region.wanted o (yielded ops a.tmps) = true) (ty : TypeId) (x : Operand) (ho : o.op = .load ty x) (g off : Nat) (hx : a.eval x = .pointer (some ⟨g, off, none⟩)) (t : TypeId) (cur cs : List Value) (d : TypeDesc)
    (hg : Blk w g t cur) (hcs : (cur.drop off).take cs.length = cs) (hu : P.underlying ty = some d) (hd : d.isRow = true) (hi : (P.info? ty).map (·.size) = some cs.length)
    (h : wpList P ops Q rest (a.put o.dst (.agg cs.toArray)) w) : wpList P ops Q (o :: rest) a w :=
  wpList_load_midG hw ty x ho g off hx cs d (hcs ▸ hg.range off cs.length) hu hd hi h
theorem wp_new2 {c : Code} {cs cs' : List Value} {t t' : TypeId} (h : ∀ W : World, Hid (Blk W w.heap.size t cs) → Hid (Blk W (w.heap.size + 1) t' cs') → Hid (Mod (fun _ => False) w W) → c.wp P Q a W) : c.wp P Q a ((w.alloc (.cells cs.toArray t (0, 0))).alloc (.cells cs'.toArray t' (0, 0))) :=
  h _ (Lib.hid ((Blk.new w t cs).alloc _)) (Lib.hid (by have := Blk.new (w.alloc (.cells cs.toArray t (0, 0))) t' cs'; rwa [show (w.alloc (.cells cs.toArray t (0, 0))).heap.size = w.heap.size + 1 by simp] at this)) (Lib.hid (((Mod.refl _ _).alloc _).alloc _))
theorem results_blk_tmp {fn : Func} {p u : Tmp} {ty : TypeId} {d : TypeDesc} (h : fn.results = #[.cell p ty, .tmp u]) (tmps : Array Value) (g : Nat) (t : TypeId) (cs : List Value) (hp : tmps.getD p undef = .pointer (some ⟨g, 0, none⟩)) {v : Value} (hv : tmps.getD u undef = v)
    (hg : Blk w g t cs) (hu : P.underlying ty = some d) (hd : d.isRow = true) (hi : (P.info? ty).map (·.size) = some cs.length) : (results fn tmps).run P w = .ok (.tuple #[.agg cs.toArray, v]) w := by
  have hl := run_loadVar_mid (P := P) w g 0 ty cs d (rangeOf hg) hu hd hi
  rw [results_cell_tmp h tmps P w, hp, hv]
  have ha : (asAddr (.pointer (some ⟨g, 0, none⟩))).run P w = .ok ⟨g, 0, none⟩ w := rfl
  rw [ha]
  simp only [Result.andThen, hl]
end
end Go.Proofs.YtcccdlmngddalaaGreat
