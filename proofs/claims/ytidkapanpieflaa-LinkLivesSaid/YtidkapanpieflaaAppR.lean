/- append(s, l...) where l can be read: it may be nil. -/
import Derived.Test.YtidkapanpieflaaSame
namespace Go.Proofs.Ytidkapanpieflaa
open Go.RowKit
set_option linter.unusedVariables false
set_option linter.unusedSimpArgs false
section
variable {P : Program}
theorem run_append_none (w : World) {f : Nat → Prop} {t ty e : TypeId} {z : Value} {size bytes : Nat} (E : Elem P t e z size bytes) {v : Value} {n : Nat} {xs : List Value} (hr : Row w f e size v n xs) (hn : n ≤ maxLen) (c : Nat) :
    (Builtin.append_ #[t, t] ty #[v, .slice none 0 c]).run P w = .ok v w := by
  obtain ⟨i, hi, hz, hsz, hby⟩ := E.hi
  obtain ⟨ad, cap, rfl, hnc, hcm, hg⟩ := hr.form
  unfold maxLen at hn
  by_cases h0 : 0 < n
  · obtain ⟨g, rfl, _⟩ := hg h0
    have h1 : ¬ (9223372036854775807 < (n : Int)) := by omega
    simp [Builtin.append_, run_underlying E.ht, sizeOf, typeInfo, hi, Builtin.lenOf, Builtin.firstCells, loadCells, loadCellsFrom, storeCells, hnc, h1]
  · obtain rfl : n = 0 := by omega
    cases ad <;> simp [Builtin.append_, run_underlying E.ht, sizeOf, typeInfo, hi, Builtin.lenOf, Builtin.firstCells, loadCells, loadCellsFrom, storeCells]
theorem wp_append_reads {o : Oper} {a : Act} {w : World} {K : Act → World → Prop} {Q : Exit → Act → World → Prop} {t e : TypeId} {z : Value} {size bytes : Nat} (E : Elem P t e z size bytes) (s x : Operand)
    (ho : o.op = .call { callee := .builtin .append, args := #[s, x], argTypes := #[t, t] })
    (f : Nat → Prop) (v : Value) (n : Nat) (xs : List Value) (hs : a.eval s = v) (hr : Row w f e size v n xs)
    (y : Value) (m : Nat) (news : List Value) (hx : a.eval x = y) (hy : Reads w y m news) (hl : news.length = m * size) (h1 : ∀ u ∈ news, u.oneCell' = true)
    (hb : (n + m) * bytes ≤ 140737488355328) (hm : n + m ≤ maxLen)
    (h : ∀ v' w', Row w' (fun k => f k ∨ w.heap.size ≤ k) e size v' (n + m) (xs ++ news) → Mod f w w' → K (a.put o.dst v') w') : o.wp P a w K Q := by
  obtain ⟨ad, c, rfl, hmc, hc, hg⟩ := hy
  by_cases h0 : 0 < m
  · obtain ⟨g, q, rfl, hcell⟩ := hg h0
    exact wp_append_row E s x ho f v n xs hs hr ⟨g, q, none⟩ m c news hx hl (fun j u hu => by rw [addr_add]; exact hcell j u hu) h1 hb hm fun v' w' h2 h3 => h v' w' h2 (Mod.row hr h3)
  · obtain rfl : m = 0 := by omega
    obtain rfl : news = [] := List.eq_nil_of_length_eq_zero (by simpa using hl)
    cases ad with
    | none =>
      have hrun := run_append_none (P := P) w (ty := o.type) E hr (by omega) c
      unfold Oper.wp execOp
      simp only [ho, resolve, invoke, builtin, Sem.run_bind, Sem.run_pure, Result.andThen_ok, List.map_toArray, List.map_cons, List.map_nil, hs, hx, hrun]
      exact h v w (by simpa using hr.mono fun k hk => .inl hk) (Mod.refl _ _)
    | some p => exact wp_append_row E s x ho f v n xs hs hr p 0 c [] hx hl (fun j u hu => by simp at hu) h1 hb hm fun v' w' h2 h3 => h v' w' h2 (Mod.row hr h3)
theorem wpList_append_reads {ops : Array Oper} {rest : List Oper} {o : Oper} {a : Act} {w : World} {Q : Exit → Act → World → Prop} {t e : TypeId} {z : Value} {size bytes : Nat} (E : Elem P t e z size bytes) (hgd : o.guard = none) (s x : Operand)
    (ho : o.op = .call { callee := .builtin .append, args := #[s, x], argTypes := #[t, t] })
    (f : Nat → Prop) (v : Value) (n : Nat) (xs : List Value) (hs : a.eval s = v) (hr : Row w f e size v n xs)
    (y : Value) (m : Nat) (news : List Value) (hx : a.eval x = y) (hy : Reads w y m news) (hl : news.length = m * size) (h1 : ∀ u ∈ news, u.oneCell' = true)
    (hb : (n + m) * bytes ≤ 140737488355328) (hm : n + m ≤ maxLen)
    (h : ∀ v' w', Row w' (fun k => f k ∨ w.heap.size ≤ k) e size v' (n + m) (xs ++ news) → Mod f w w' → wpList P ops Q rest (a.put o.dst v') w') : wpList P ops Q (o :: rest) a w :=
  wpList_plain hgd fun _ hK => wp_append_reads E s x ho f v n xs hs hr y m news hx hy hl h1 hb hm fun v' w' h2 h3 => hK _ _ (h v' w' h2 h3)
end
end Go.Proofs.Ytidkapanpieflaa
