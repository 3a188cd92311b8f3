/- A region that draws its order, walked by ONE plan: what only computes, or reads cells that stay as they are till the stores begin, is taken first; what is left is forced. -/
import Derived.Test.YtcccdlmngddalaaGreatMem
set_option linter.unusedVariables false
set_option linter.unusedSimpArgs false
namespace Go.Proofs.YtcccdlmngddalaaGreat
open Go.RowKit
section
variable {P : Program} {ops : Array Oper} {Q : Exit → Act → World → Prop} {md : Region.Mode} {S : World → Prop} {B : List Nat}
def wpAnyB (P : Program) (md : Region.Mode) (ops : Array Oper) (Q : Exit → Act → World → Prop) (S : World → Prop) (B : List Nat) : Nat → Array Bool → Act → World → Prop
  | 0, listed, a, w => Region.ready md ops listed = [] ∧ Q .normal a w
  | fuel + 1, listed, a, w => (Region.ready md ops listed = [] → Q .normal a w) ∧
    ∀ i ∈ Region.ready md ops listed, wpOp P ops Q i (fun a' w' => (B.contains i = false → S w → S w') ∧ wpAnyB P md ops Q S B fuel (listed.setIfInBounds i true) a' w') a w
theorem wpAny_of_B : ∀ (fuel : Nat) (listed : Array Bool) (a : Act) (w : World), wpAnyB P md ops Q S B fuel listed a w → wpAny P md ops Q fuel listed a w
  | 0, _, _, _, h => h
  | fuel + 1, _, _, _, h => ⟨h.1, fun i hi => wpOp_mono (fun a' w' h' => wpAny_of_B fuel _ a' w' h'.2) (h.2 i hi)⟩
def waits (md : Region.Mode) (ops : Array Oper) (B : List Nat) (i : Nat) : Bool :=
  B.all fun b => match ops[b]? with
    | some o => o.after.any fun e => Region.binds md e && e.on == i
    | none => true
theorem wpAnyB_first {T : World → Prop} {i : Nat} {oi : Oper} {v : Value} (hi : ops[i]? = some oi) (hsel : ∀ (j : Nat) (o : Oper) cs b, ops[j]? = some o → o.op ≠ .select cs b)
    (hQ : ∀ c a w, Q (.panic c) (a.put oi.dst v) w → Q (.panic c) a w)
    (hT : ∀ j oj, ops[j]? = some oj → (∀ e ∈ oj.after, Region.binds md e = true → e.on ≠ i) → ∀ w w', (B.contains j = false → S w → S w') → T w → T w') :
    ∀ (fuel : Nat) (listed : Array Bool) (a : Act) (w : World),
      (∀ j oj, ops[j]? = some oj → j ≠ i → listed.getD j true = false → (∀ e ∈ oj.after, Region.binds md e = true → e.on ≠ i) → oi.apart ops oj = true) →
      i ∈ Region.ready md ops listed → YieldsIf P ops T oi v a → T w →
      wpAnyB P md ops Q S B fuel (listed.setIfInBounds i true) (a.put oi.dst v) w → wpAnyB P md ops Q S B (fuel + 1) listed a w := by
  intro fuel
  induction fuel with
  | zero =>
    intro listed a w _ hr hy hw H
    refine ⟨fun h => (by rw [h] at hr; cases hr), fun j hj => ?_⟩
    by_cases hji : j = i
    · subst hji; exact hy.wpOp hi hw ⟨fun _ h => h, H⟩
    · have := ready_mono hj hji
      rw [H.1] at this
      cases this
  | succ fuel ih =>
    intro listed a w hfree hr hy hw H
    refine ⟨fun h => (by rw [h] at hr; cases hr), fun j hj => ?_⟩
    by_cases hji : j = i
    · subst hji; exact hy.wpOp hi hw ⟨fun _ h => h, H⟩
    · have h1 := H.2 j (ready_mono hj hji)
      obtain ⟨hjun, oj, hoj, hall⟩ := mem_ready.1 hj
      have hnot : ∀ e ∈ oj.after, Region.binds md e = true → e.on ≠ i := fun e he hb heq => by
        have h2 := hall e he hb
        have h0 := (mem_ready.1 hr).1
        rw [heq] at h2
        rcases Nat.lt_or_ge i listed.size with h' | h'
        · simp [h'] at h0 h2; rw [h0] at h2; cases h2
        · simp [Array.getElem?_eq_none h'] at h2
      have h2 := wpOp_putIf hoj (hfree j oj hoj hji hjun hnot) (fun cs b => hsel i oi cs b hi) (fun cs b => hsel j oj cs b hoj) hQ hy h1
      have hfree' : ∀ k ok, ops[k]? = some ok → k ≠ i → (listed.setIfInBounds j true).getD k true = false →
          (∀ e ∈ ok.after, Region.binds md e = true → e.on ≠ i) → oi.apart ops ok = true := fun k ok hk hki hun hno => by
        refine hfree k ok hk hki ?_ hno
        by_cases hjk : j = k
        · subst hjk; exact hjun
        · rw [getD_set_ne true hjk] at hun; exact hun
      refine wpOp_mono (fun a' w' h3 => ⟨h3.2.1, ?_⟩) h2
      refine ih (listed.setIfInBounds j true) a' w' hfree' (ready_mono hr (Ne.symm hji)) h3.1 (hT j oj hoj hnot w w' h3.2.1 hw) ?_
      rw [Array.setIfInBounds_comm _ _ hji]
      exact h3.2.2
def planOk (md : Region.Mode) (ops : Array Oper) (B : List Nat) : List (Nat × Nat) → Array Bool → Bool
  | [], listed => (Region.ready md ops listed).isEmpty
  | (i, k) :: rest, listed =>
    (match k with
      | 0 => Region.free md ops listed i && (Region.ready md ops listed).contains i
      | 1 => Region.free md ops listed i && (Region.ready md ops listed).contains i && waits md ops B i
      | _ => Region.ready md ops listed == [i]) && planOk md ops B rest (listed.setIfInBounds i true)
def wpPlan (P : Program) (ops : Array Oper) (Q : Exit → Act → World → Prop) : (World → Prop) → List Nat → List (Nat × Nat) → Act → World → Prop
  | _, _, [], a, w => Q .normal a w
  | S, B, (i, k) :: rest, a, w =>
    match k with
    | 0 => ∃ o v, ops[i]? = some o ∧ YieldsIf P ops (fun _ => True) o v a ∧ wpPlan P ops Q S B rest (a.put o.dst v) w
    | 1 => ∃ S' : World → Prop, (S' = S ∨ (B = [] ∧ ∀ w, S' w → S w)) ∧ ∃ o v, ops[i]? = some o ∧ YieldsIf P ops S' o v a ∧ S' w ∧ wpPlan P ops Q S' B rest (a.put o.dst v) w
    | _ => wpOp P ops Q i (fun a' w' => (B.contains i = false → S w → S w') ∧ wpPlan P ops Q S B rest a' w') a w
theorem wpAnyB_weaken {S S' : World → Prop} (hS : ∀ w, S' w → S w) : ∀ (fuel : Nat) (listed : Array Bool) (a : Act) (w : World), S' w → wpAnyB P md ops Q S' [] fuel listed a w → wpAnyB P md ops Q S [] fuel listed a w
  | 0, _, _, _, _, h => h
  | fuel + 1, _, _, w, hw, h => ⟨h.1, fun i hi => wpOp_mono (fun a' w' h' => ⟨fun hb _ => hS _ (h'.1 hb hw), wpAnyB_weaken hS fuel _ a' w' (h'.1 rfl hw) h'.2⟩) (h.2 i hi)⟩
theorem waits_spec {i : Nat} (h : waits md ops B i = true) (j : Nat) (oj : Oper) (hj : ops[j]? = some oj) (hno : ∀ e ∈ oj.after, Region.binds md e = true → e.on ≠ i) : B.contains j = false := by
  cases hb : B.contains j with
  | false => rfl
  | true =>
    have h1 := List.all_eq_true.1 h j (by simpa using hb)
    simp only [hj] at h1
    obtain ⟨e, he, hx⟩ := Array.any_eq_true'.1 h1
    simp only [Bool.and_eq_true, beq_iff_eq] at hx
    exact absurd hx.2 (hno e he hx.1)
theorem wpAnyB_of_plan (hs : Region.noSelect ops = true) (hQ : ∀ d v c a w, Q (.panic c) (Act.put a d v) w → Q (.panic c) a w) : ∀ (S : World → Prop) (plan : List (Nat × Nat)) (fuel : Nat) (listed : Array Bool) (a : Act) (w : World),
    planOk md ops B plan listed = true → plan.length ≤ fuel → wpPlan P ops Q S B plan a w → wpAnyB P md ops Q S B fuel listed a w
  | S, [], fuel, listed, a, w, hp, _, h => by
    simp only [planOk, List.isEmpty_iff] at hp
    cases fuel with
    | zero => exact ⟨hp, h⟩
    | succ n => exact ⟨fun _ => h, by rw [hp]; simp⟩
  | S, (i, k) :: rest, fuel, listed, a, w, hp, hf, h => by
    cases fuel with
    | zero => simp at hf
    | succ n =>
      have hf' : rest.length ≤ n := by simpa using hf
      simp only [planOk, Bool.and_eq_true] at hp
      obtain ⟨hk, hrest⟩ := hp
      match k with
      | 0 =>
        simp only [Bool.and_eq_true] at hk
        obtain ⟨o, v, ho, hy, hcont⟩ := h
        exact wpAnyB_first ho (Region.noSelect_spec hs) (fun c a w => hQ o.dst v c a w) (fun _ _ _ _ _ _ _ h => h) n listed a w (Region.free_spec ho hk.1) (by simpa using hk.2) hy trivial (wpAnyB_of_plan hs hQ S rest n _ _ _ hrest hf' hcont)
      | 1 =>
        simp only [Bool.and_eq_true] at hk
        obtain ⟨S', hSS', o, v, ho, hy, hS, hcont⟩ := h
        have h1 := wpAnyB_first ho (Region.noSelect_spec hs) (fun c a w => hQ o.dst v c a w) (fun j oj hj hno w w' hSS hSw => hSS (waits_spec hk.2 j oj hj hno) hSw) n listed a w (Region.free_spec ho hk.1.1) (by simpa using hk.1.2) hy hS (wpAnyB_of_plan hs hQ S' rest n _ _ _ hrest hf' hcont)
        rcases hSS' with rfl | ⟨rfl, hw⟩
        · exact h1
        · exact wpAnyB_weaken hw _ _ _ _ hS h1
      | k + 2 =>
        have hr : Region.ready md ops listed = [i] := by simpa using hk
        refine ⟨fun h0 => (by rw [hr] at h0; cases h0), fun j hj => ?_⟩
        rw [hr] at hj
        obtain rfl : j = i := by simpa using hj
        unfold wpPlan at h
        exact wpOp_mono (fun a' w' h' => ⟨h'.1, wpAnyB_of_plan hs hQ S rest n _ a' w' hrest hf' h'.2⟩) h
theorem wp_region_plan {id : Nat} {a : Act} {w : World} (B : List Nat) (plan : List (Nat × Nat)) (S : World → Prop) (hm : P.follows .mixedOrders = true)
    (hc : (Region.noSelect ops && planOk .any ops B plan (Array.replicate ops.size false) && decide (plan.length ≤ ops.size)) = true)
    (hQ : ∀ d v c a w, Q (.panic c) (Act.put a d v) w → Q (.panic c) a w) (h : wpPlan P ops Q S B plan a w.drew) : (Code.region id ops true).wp P Q a w := by
  simp only [Bool.and_eq_true, decide_eq_true_eq] at hc
  exact wp_region_any hm (wpAny_of_B (S := S) (B := B) _ _ _ _ (wpAnyB_of_plan hc.1.1 hQ S plan _ _ _ _ hc.1.2 hc.2 h))
/- the steps of a plan -/
theorem plan_nil {a : Act} {w : World} (h : Q .normal a w) : wpPlan P ops Q S B [] a w := h
theorem plan_take {i : Nat} {rest : List (Nat × Nat)} {a : Act} {w : World} {o : Oper} {v : Value} (ho : ops[i]? = some o) (hw : Region.wanted o (yielded ops a.tmps) = true) (hr : ∀ w, (execOp a.eval o).run P w = .ok (.value v) w)
    (h : wpPlan P ops Q S B rest (a.put o.dst v) w) : wpPlan P ops Q S B ((i, 0) :: rest) a w := ⟨o, v, ho, .inl ⟨hw, fun w _ => hr w⟩, h⟩
theorem plan_skip {i : Nat} {rest : List (Nat × Nat)} {a : Act} {w : World} {o : Oper} (ho : ops[i]? = some o) (hw : Region.wanted o (yielded ops a.tmps) = false)
    (h : wpPlan P ops Q S B rest (a.put o.dst undef) w) : wpPlan P ops Q S B ((i, 0) :: rest) a w := ⟨o, undef, ho, .inr ⟨hw, rfl⟩, h⟩
theorem plan_held {i : Nat} {rest : List (Nat × Nat)} {a : Act} {w : World} {o : Oper} {v : Value} (ho : ops[i]? = some o) (hw : Region.wanted o (yielded ops a.tmps) = true) (hS : S w) (hr : ∀ w, S w → (execOp a.eval o).run P w = .ok (.value v) w)
    (h : wpPlan P ops Q S B rest (a.put o.dst v) w) : wpPlan P ops Q S B ((i, 1) :: rest) a w := ⟨S, .inl rfl, o, v, ho, .inl ⟨hw, hr⟩, hS, h⟩
theorem plan_do {i : Nat} {rest : List (Nat × Nat)} {a : Act} {w : World} {o : Oper} (ho : ops[i]? = some o) (hw : Region.wanted o (yielded ops a.tmps) = true)
    (h : ∀ K : Act → World → Prop, (∀ a' w', S w' → wpPlan P ops Q S B rest a' w' → K a' w') → o.wp P a w K Q) : wpPlan P ops Q S B ((i, 2) :: rest) a w := by
  unfold wpPlan
  exact wpOp_step ho fun K hK => by rw [if_pos hw]; exact h K fun a' w' hS hp => hK a' w' ⟨fun _ _ => hS, hp⟩
theorem plan_end {i : Nat} {rest : List (Nat × Nat)} {a : Act} {w : World} {o : Oper} (ho : ops[i]? = some o) (hB : B.contains i = true) (hw : Region.wanted o (yielded ops a.tmps) = true)
    (h : ∀ K : Act → World → Prop, (∀ a' w', wpPlan P ops Q S B rest a' w' → K a' w') → o.wp P a w K Q) : wpPlan P ops Q S B ((i, 3) :: rest) a w := by
  unfold wpPlan
  exact wpOp_step ho fun K hK => by rw [if_pos hw]; exact h K fun a' w' hp => hK a' w' ⟨fun hb => (by rw [hB] at hb; cases hb), hp⟩
theorem plan_skip1 {i : Nat} {rest : List (Nat × Nat)} {a : Act} {w : World} {o : Oper} (ho : ops[i]? = some o) (hw : Region.wanted o (yielded ops a.tmps) = false) (hS : S w)
    (h : wpPlan P ops Q S B rest (a.put o.dst undef) w) : wpPlan P ops Q S B ((i, 1) :: rest) a w := ⟨S, .inl rfl, o, undef, ho, .inr ⟨hw, rfl⟩, hS, h⟩
theorem plan_pass2 {i : Nat} {rest : List (Nat × Nat)} {a : Act} {w : World} {o : Oper} (ho : ops[i]? = some o) (hw : Region.wanted o (yielded ops a.tmps) = false)
    (h : wpPlan P ops Q S B rest (a.put o.dst undef) w) : wpPlan P ops Q S B ((i, 2) :: rest) a w := by
  unfold wpPlan
  exact wpOp_step ho fun K hK => by rw [if_neg (by rw [hw]; exact Bool.false_ne_true)]; exact hK _ _ ⟨fun _ h => h, h⟩
theorem plan_pass3 {i : Nat} {rest : List (Nat × Nat)} {a : Act} {w : World} {o : Oper} (ho : ops[i]? = some o) (hw : Region.wanted o (yielded ops a.tmps) = false)
    (h : wpPlan P ops Q S B rest (a.put o.dst undef) w) : wpPlan P ops Q S B ((i, 3) :: rest) a w := by
  unfold wpPlan
  exact wpOp_step ho fun K hK => by rw [if_neg (by rw [hw]; exact Bool.false_ne_true)]; exact hK _ _ ⟨fun _ h => h, h⟩
end
end Go.Proofs.YtcccdlmngddalaaGreat
