/- append(s, l...) where l can be read: it may be nil (rows' seat). -/
import Derived.Test.YtcccdlmngddalaaGreatRowM
set_option linter.unusedVariables false
set_option linter.unusedSimpArgs false
namespace Go.Proofs.YtcccdlmngddalaaGreat
open Go.RowKit
section
variable {P : Program}
theorem run_append_none (w : World) {f : Nat → Prop} {t ty e : TypeId} {z : Value} {size bytes : Nat} (E : Elem P t e z size bytes) {v : Value} {n : Nat} {xs : List Value} (hr : Row w f e size v n xs) (hn : n ≤ maxLen) (c : Nat) :
    (Builtin.append_ #[t, t] ty #[v, .slice none 0 c]).run P w = .ok v w := by
  obtain ⟨i, hi, hz, hsz, hby⟩ := E.hi
  obtain ⟨ad, cap, rfl, hnc, hcm, hg⟩ := hr.form
  unfold maxLen at hn
  by_cases h0 : 0 < n
  · obtain ⟨g, rfl, _⟩ := hg h0
    have h1 : ¬ (9223372036854775807 < (n : Int)) := by omega
    simp [Builtin.append_, run_underlying E.ht, sizeOf, typeInfo, hi, Builtin.lenOf, Builtin.firstCells, loadCells, loadCellsFrom, storeCells, hnc, h1]
  · obtain rfl : n = 0 := by omega
    cases ad <;> simp [Builtin.append_, run_underlying E.ht, sizeOf, typeInfo, hi, Builtin.lenOf, Builtin.firstCells, loadCells, loadCellsFrom, storeCells]
theorem wp_append_reads {o : Oper} {a : Act} {w : World} {K : Act → World → Prop} {Q : Exit → Act → World → Prop} {t e : TypeId} {z : Value} {size bytes : Nat} (E : Elem P t e z size bytes) (s x : Operand)
    (ho : o.op = .call { callee := .builtin .append, args := #[s, x], argTypes := #[t, t] })
    (f : Nat → Prop) (v : Value) (n : Nat) (xs : List Value) (hs : a.eval s = v) (hr : Row w f e size v n xs)
    (y : Value) (m : Nat) (news : List Value) (hx : a.eval x = y) (hy : Reads w y m news) (hl : news.length = m * size) (h1 : ∀ u ∈ news, u.oneCell' = true)
    (hb : (n + m) * bytes ≤ 140737488355328) (hm : n + m ≤ maxLen)
    (h : ∀ v' w', Row w' (fun k => f k ∨ w.heap.size ≤ k) e size v' (n + m) (xs ++ news) → Mod f w w' → K (a.put o.dst v') w') : o.wp P a w K Q := by
  obtain ⟨ad, c, rfl, hmc, hc, hg⟩ := hy
  by_cases h0 : 0 < m
  · obtain ⟨g, q, rfl, hcell⟩ := hg h0
    exact wp_append_row E s x ho f v n xs hs hr ⟨g, q, none⟩ m c news hx hl (fun j u hu => by rw [addr_add]; exact hcell j u hu) h1 hb hm fun v' w' h2 h3 => h v' w' h2 (Mod.row hr h3)
  · obtain rfl : m = 0 := by omega
    obtain rfl : news = [] := List.eq_nil_of_length_eq_zero (by simpa using hl)
    cases ad with
    | none =>
      have hrun := run_append_none (P := P) w (ty := o.type) E hr (by omega) c
      unfold Oper.wp execOp
      simp only [ho, resolve, invoke, builtin, Sem.run_bind, Sem.run_pure, Result.andThen_ok, List.map_toArray, List.map_cons, List.map_nil, hs, hx, hrun]
      exact h v w (by simpa using hr.mono fun k hk => .inl hk) (Mod.refl _ _)
    | some p => exact wp_append_row E s x ho f v n xs hs hr p 0 c [] hx hl (fun j u hu => by simp at hu) h1 hb hm fun v' w' h2 h3 => h v' w' h2 (Mod.row hr h3)
theorem wpList_append_reads {ops : Array Oper} {rest : List Oper} {o : Oper} {a : Act} {w : World} {Q : Exit → Act → World → Prop} {t e : TypeId} {z : Value} {size bytes : Nat} (E : Elem P t e z size bytes) (hgd : o.guard = none) (s x : Operand)
    (ho : o.op = .call { callee := .builtin .append, args := #[s, x], argTypes := #[t, t] })
    (f : Nat → Prop) (v : Value) (n : Nat) (xs : List Value) (hs : a.eval s = v) (hr : Row w f e size v n xs)
    (y : Value) (m : Nat) (news : List Value) (hx : a.eval x = y) (hy : Reads w y m news) (hl : news.length = m * size) (h1 : ∀ u ∈ news, u.oneCell' = true)
    (hb : (n + m) * bytes ≤ 140737488355328) (hm : n + m ≤ maxLen)
    (h : ∀ v' w', Row w' (fun k => f k ∨ w.heap.size ≤ k) e size v' (n + m) (xs ++ news) → Mod f w w' → wpList P ops Q rest (a.put o.dst v') w') : wpList P ops Q (o :: rest) a w :=
  wpList_plain hgd fun _ hK => wp_append_reads E s x ho f v n xs hs hr y m news hx hy hl h1 hb hm fun v' w' h2 h3 => hK _ _ (h v' w' h2 h3)
end
section
variable {P : Program}
theorem run_storeAt_row1 {w : World} {f : Nat → Prop} {e : TypeId} {sz n : Nat} {v : Value} {xs : List Value} (hr : Row w f e sz v n xs) (ty : TypeId) (g off : Nat) (u : Value) (hg : v.ownBlock = some g) (hfit : off < xs.length) (hi : (P.info? ty).map (·.size) = some 1) (h1 : u.oneCell' = true) :
    ∃ w', (Instr.storeAt ty (.pointer (some ⟨g, off, none⟩)) u).run P w = .ok () w' ∧ Row w' f e sz v n (xs.set off u) ∧ Mod (fun k => k = g) w w' := by
  obtain ⟨⟨hl, h1'⟩, h2⟩ := hr
  rcases h1' with ⟨rfl, _⟩ | ⟨g', cap, cur, rfl, hb, hh, hn, hc, hs, ht⟩
  · simp [Value.ownBlock] at hg
  · simp [Value.ownBlock] at hg
    subst hg
    have hB : Blk w g' e cur.toList := by unfold Blk; rw [Array.toArray_toList]; exact hh
    have hcl : xs.length ≤ cur.toList.length := by rw [← ht]; simp; omega
    refine ⟨_, run_storeAt_blk1 (P := P) ty g' off e cur.toList u hB (by omega) hi h1, ⟨⟨by simpa using hl, .inr ⟨g', cap, (cur.toList.set off u).toArray, rfl, hb, blk_setRow hB _, hn, hc, by simpa using hs, ?_⟩⟩, h2⟩, (Mod.refl (fun k => k = g') w).setRow (.inl rfl) _⟩
    have e1 : xs.length = min xs.length cur.size := by simp at hcl; omega
    show (cur.toList.set off u).take (n * sz) = xs.set off u
    rw [List.take_set, ht]
end
theorem run_eql_slice_nil {P : Program} {t e : TypeId} (ht : P.underlying t = some (.slice e)) (ad : Option Addr) (n cp : Nat) (w : World) : (binOp .eql t (.slice ad n cp) (.slice none 0 0)).run P w = .ok (.bool ad.isNone) w := by
  have h : ∀ d, (Op.equalIn (d + 1) t (.slice ad n cp) (.slice none 0 0)).run P w = .ok ad.isNone w := fun d => by
    rw [Op.equalIn]
    cases ad <;> simp [run_underlying ht, Sem.run_bind, Result.andThen]
  have h' : (Op.equalIn Op.maxDepth t (.slice ad n cp) (.slice none 0 0)).run P w = .ok ad.isNone w := h 9999
  simp only [binOp, Op.equal, Sem.run_bind, h', Result.andThen_ok, Sem.run_pure]
theorem Row.empty (w : World) (e : TypeId) (sz : Nat) : Row (w.alloc (.cells #[] e (0, 0))) (fun k => w.heap.size ≤ k) e sz (.slice (some ⟨w.heap.size, 0, none⟩) 0 0) 0 [] :=
  Row.made (cur := #[]) (allocNew w _) (by simp) (Nat.zero_le _) (Nat.le_refl _)
end Go.Proofs.YtcccdlmngddalaaGreat
