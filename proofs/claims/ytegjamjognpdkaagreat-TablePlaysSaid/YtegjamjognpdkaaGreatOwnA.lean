/- slices.Clone of ints and of rows, table.own: contracts. -/
import Derived.Test.YtegjamjognpdkaaGreatApR
namespace Go.Proofs.YtegjamjognpdkaaGreat
open Go.RowKit
set_option linter.unusedVariables false
set_option linter.unusedSimpArgs false
section
variable {P : Program}
/-- a store into a row that is owned -/
theorem run_storeAt_row1 {w : World} {f : Nat → Prop} {e : TypeId} {sz n : Nat} {v : Value} {xs : List Value} (hr : Row w f e sz v n xs) (ty : TypeId) (g off : Nat) (u : Value) (hg : v.ownBlock = some g) (hfit : off < xs.length) (hi : (P.info? ty).map (·.size) = some 1) (h1 : u.oneCell' = true) :
    ∃ w', (Instr.storeAt ty (.pointer (some ⟨g, off, none⟩)) u).run P w = .ok () w' ∧ Row w' f e sz v n (xs.set off u) ∧ Mod (fun k => k = g) w w' := by
  obtain ⟨⟨hl, h1'⟩, h2⟩ := hr
  rcases h1' with ⟨rfl, _⟩ | ⟨g', cap, cur, rfl, hb, hh, hn, hc, hs, ht⟩
  · simp [Value.ownBlock] at hg
  · simp [Value.ownBlock] at hg
    subst hg
    have hB : Blk w g' e cur.toList := by unfold Blk; rw [Array.toArray_toList]; exact hh
    have hcl : xs.length ≤ cur.toList.length := by rw [← ht]; simp; omega
    refine ⟨_, run_storeAt_blk1 (P := P) ty g' off e cur.toList u hB (by omega) hi h1, ⟨⟨by simpa using hl, .inr ⟨g', cap, (cur.toList.set off u).toArray, rfl, hb, blk_setRow hB _, hn, hc, by simpa using hs, ?_⟩⟩, h2⟩, (Mod.refl (fun k => k = g') w).setRow (.inl rfl) _⟩
    have e1 : xs.length = min xs.length cur.size := by simp at hcl; omega
    show (cur.toList.set off u).take (n * sz) = xs.set off u
    rw [List.take_set, ht]
theorem wpList_store_row1 {w : World} {ops : Array Oper} {rest : List Oper} {o : Oper} {a : Act} {Q : Exit → Act → World → Prop} (hgd : o.guard = none) (ty : TypeId) (x y : Operand) (ho : o.op = .store ty x y) {f : Nat → Prop} {e : TypeId} {sz n : Nat} {v : Value} {xs : List Value} (hr : Row w f e sz v n xs) (g off : Nat) (u : Value)
    (hx : a.eval x = .pointer (some ⟨g, off, none⟩)) (hy : a.eval y = u) (hg : v.ownBlock = some g) (hfit : off < xs.length) (hi : (P.info? ty).map (·.size) = some 1) (h1 : u.oneCell' = true)
    (h : ∀ w', Hid (Row w' f e sz v n (xs.set off u)) → Hid (Mod (fun k => k = g) w w') → wpList P ops Q rest (a.put o.dst undef) w') : wpList P ops Q (o :: rest) a w := by
  refine wpList_plain hgd fun K hK => ?_
  obtain ⟨w', hrun, h2, h3⟩ := run_storeAt_row1 (P := P) hr ty g off u hg hfit hi h1
  unfold Oper.wp execOp
  simp only [ho, hx, hy, Sem.run_bind, Sem.run_pure, hrun, Result.andThen_ok]
  exact hK _ _ (h _ (Lib.hid h2) (Lib.hid h3))
end
theorem run_eql_slice_nil {P : Program} {t e : TypeId} (ht : P.underlying t = some (.slice e)) (ad : Option Addr) (n cp : Nat) (w : World) : (binOp .eql t (.slice ad n cp) (.slice none 0 0)).run P w = .ok (.bool ad.isNone) w := by
  have h : ∀ d, (Op.equalIn (d + 1) t (.slice ad n cp) (.slice none 0 0)).run P w = .ok ad.isNone w := fun d => by
    rw [Op.equalIn]
    cases ad <;> simp [run_underlying ht, Sem.run_bind, Result.andThen]
  have h' : (Op.equalIn Op.maxDepth t (.slice ad n cp) (.slice none 0 0)).run P w = .ok ad.isNone w := h 9999
  simp only [binOp, Op.equal, Sem.run_bind, h', Result.andThen_ok, Sem.run_pure]
theorem Row.empty (w : World) (e : TypeId) (sz : Nat) : Row (w.alloc (.cells #[] e (0, 0))) (fun k => w.heap.size ≤ k) e sz (.slice (some ⟨w.heap.size, 0, none⟩) 0 0) 0 [] :=
  Row.made (cur := #[]) (allocNew w _) (by simp) (Nat.zero_le _) (Nat.le_refl _)
set_option maxRecDepth 100000 in
set_option maxHeartbeats 1000000 in
theorem cloneI_any (v : Value) (n : Nat) (xs : List Value) (w : World) (hr : Reads w v n xs) (hl : xs.length = n) (h1 : ∀ u ∈ xs, u.oneCell' = true) (hn : n ≤ 1000) :
    Calls Tryz.prog 41 #[v] w fun e w' => ∃ v', e = .returned v' ∧ Row w' (fun k => w.heap.size ≤ k) 3 1 v' n xs ∧ Mod (fun _ => False) w w' := by
  obtain ⟨ad, cp, rfl, hnc, hcm, hg⟩ := hr
  have HR : Hid (Reads (w.alloc (.cells #[] 3 (0, 0))) (.slice ad n cp) n xs) := Lib.hid ((show Reads w (.slice ad n cp) n xs from ⟨ad, cp, rfl, hnc, hcm, hg⟩).keep0 ((Mod.refl _ _).alloc _))
  have HE := Lib.hid (Row.empty w 3 1)
  have HL := Lib.hid hl
  have H1 := Lib.hid h1
  cases ad with
  | none =>
    have h0 : n = 0 := by
      by_cases h : 0 < n
      · obtain ⟨g, o, e, _⟩ := hg h
        cases e
      · omega
    subst h0
    have hx : xs = [] := List.eq_nil_of_length_eq_zero hl
    clear hg
    have hE : ∀ w : World, (binOp .eql 26 (.slice none 0 cp) (.slice none 0 0)).run Tryz.prog w = .ok (.bool true) w := fun w => run_eql_slice_nil Tryz.underlying26 _ _ _ w
    go_enter Tryz.func41, Tryz.ntmps41
    go_wp2
    go_ret
    subst hx
    exact ⟨_, rfl, Row.nil _ _ _ _, Mod.refl _ _⟩
  | some a =>
    clear hg
    have hE : ∀ w : World, (binOp .eql 26 (.slice (some a) n cp) (.slice none 0 0)).run Tryz.prog w = .ok (.bool false) w := fun w => run_eql_slice_nil Tryz.underlying26 _ _ _ w
    go_enter Tryz.func41, Tryz.ntmps41
    go_wp2_with (at_builtin; refine wpList_append_reads Tryz.elI rfl (.tmp 5) (.tmp 6) rfl (fun k => w.heap.size ≤ k) _ 0 [] rfl HE.out _ n xs rfl HR.out (by rw [HL.out, Nat.mul_one]) H1.out (by omega) (by unfold maxLen; omega) ?_; intro v' w' h2 h3; have H2 := Lib.hid h2; have H3 := Lib.hid h3; clear h2 h3)
    go_ret
    refine ⟨_, rfl, ?_, ?_⟩
    · have h2 := H2.out
      rw [Nat.zero_add, List.nil_append] at h2
      exact h2.mono fun k hk => hk.elim (fun h => h) fun h => Nat.le_trans (by simp) h
    · exact ((Mod.refl (fun _ => False) w).alloc _).trans H3.out fun x hx => .inr hx
set_option maxRecDepth 100000 in
set_option maxHeartbeats 1000000 in
theorem cloneR_any (v : Value) (n : Nat) (xs : List Value) (w : World) (hr : Reads w v n xs) (hl : xs.length = n * 20) (h1 : ∀ u ∈ xs, u.oneCell' = true) (hn : n ≤ 3000) :
    Calls Tryz.prog 40 #[v] w fun e w' => ∃ v', e = .returned v' ∧ Row w' (fun k => w.heap.size ≤ k) 28 20 v' n xs ∧ Mod (fun _ => False) w w' := by
  obtain ⟨ad, cp, rfl, hnc, hcm, hg⟩ := hr
  have HR : Hid (Reads (w.alloc (.cells #[] 28 (0, 0))) (.slice ad n cp) n xs) := Lib.hid ((show Reads w (.slice ad n cp) n xs from ⟨ad, cp, rfl, hnc, hcm, hg⟩).keep0 ((Mod.refl _ _).alloc _))
  have HE := Lib.hid (Row.empty w 28 20)
  have HL := Lib.hid hl
  have H1 := Lib.hid h1
  cases ad with
  | none =>
    have h0 : n = 0 := by
      by_cases h : 0 < n
      · obtain ⟨g, o, e, _⟩ := hg h
        cases e
      · omega
    subst h0
    have hx : xs = [] := List.eq_nil_of_length_eq_zero (by simpa using hl)
    clear hg
    have hE : ∀ w : World, (binOp .eql 36 (.slice none 0 cp) (.slice none 0 0)).run Tryz.prog w = .ok (.bool true) w := fun w => run_eql_slice_nil Tryz.underlying36 _ _ _ w
    go_enter Tryz.func40, Tryz.ntmps40
    go_wp2
    go_ret
    subst hx
    exact ⟨_, rfl, Row.nil _ _ _ _, Mod.refl _ _⟩
  | some a =>
    clear hg
    have hE : ∀ w : World, (binOp .eql 36 (.slice (some a) n cp) (.slice none 0 0)).run Tryz.prog w = .ok (.bool false) w := fun w => run_eql_slice_nil Tryz.underlying36 _ _ _ w
    go_enter Tryz.func40, Tryz.ntmps40
    go_wp2_with (at_builtin; refine wpList_append_reads Tryz.elRow rfl (.tmp 5) (.tmp 6) rfl (fun k => w.heap.size ≤ k) _ 0 [] rfl HE.out _ n xs rfl HR.out HL.out H1.out (by omega) (by unfold maxLen; omega) ?_; intro v' w' h2 h3; have H2 := Lib.hid h2; have H3 := Lib.hid h3; clear h2 h3)
    go_ret
    refine ⟨_, rfl, ?_, ?_⟩
    · have h2 := H2.out
      rw [Nat.zero_add, List.nil_append] at h2
      exact h2.mono fun k hk => hk.elim (fun h => h) fun h => Nat.le_trans (by simp) h
    · exact ((Mod.refl (fun _ => False) w).alloc _).trans H3.out fun x hx => .inr hx
end Go.Proofs.YtegjamjognpdkaaGreat
