/- A drawn region walked by a plan with forks: where two may come up, both orders are walked. -/
import Derived.Test.YtcccdlmngddalaaGreatReg
set_option linter.unusedVariables false
set_option linter.unusedSimpArgs false
namespace Go.Proofs.YtcccdlmngddalaaGreat
open Go.RowKit
inductive PT where
  | n
  | c (i k : Nat) (r : PT)
  | f (i j : Nat) (p q : PT)
def PT.len : PT → Nat
  | .n => 0
  | .c _ _ r => r.len + 1
  | .f _ _ p q => max p.len q.len + 1
section
variable {P : Program} {ops : Array Oper} {Q : Exit → Act → World → Prop} {md : Region.Mode} {S : World → Prop} {B : List Nat}
def ptOk (md : Region.Mode) (ops : Array Oper) (B : List Nat) : PT → Array Bool → Bool
  | .n, listed => (Region.ready md ops listed).isEmpty
  | .c i k r, listed =>
    (match k with
      | 0 => Region.free md ops listed i && (Region.ready md ops listed).contains i
      | 1 => Region.free md ops listed i && (Region.ready md ops listed).contains i && waits md ops B i
      | _ => Region.ready md ops listed == [i]) && ptOk md ops B r (listed.setIfInBounds i true)
  | .f i j p q, listed => Region.ready md ops listed == [i, j] && ptOk md ops B p (listed.setIfInBounds i true) && ptOk md ops B q (listed.setIfInBounds j true)
def wpT (P : Program) (ops : Array Oper) (Q : Exit → Act → World → Prop) (S : World → Prop) (B : List Nat) : PT → Act → World → Prop
  | .n, a, w => Q .normal a w
  | .c i k r, a, w =>
    match k with
    | 0 => ∃ o v, ops[i]? = some o ∧ YieldsIf P ops (fun _ => True) o v a ∧ wpT P ops Q S B r (a.put o.dst v) w
    | 1 => ∃ o v, ops[i]? = some o ∧ YieldsIf P ops S o v a ∧ S w ∧ wpT P ops Q S B r (a.put o.dst v) w
    | _ => wpOp P ops Q i (fun a' w' => (B.contains i = false → S w → S w') ∧ wpT P ops Q S B r a' w') a w
  | .f i j p q, a, w => wpOp P ops Q i (fun a' w' => (B.contains i = false → S w → S w') ∧ wpT P ops Q S B p a' w') a w ∧ wpOp P ops Q j (fun a' w' => (B.contains j = false → S w → S w') ∧ wpT P ops Q S B q a' w') a w
theorem wpAnyB_of_T (hs : Region.noSelect ops = true) (hQ : ∀ d v c a w, Q (.panic c) (Act.put a d v) w → Q (.panic c) a w) : ∀ (p : PT) (fuel : Nat) (listed : Array Bool) (a : Act) (w : World),
    ptOk md ops B p listed = true → p.len ≤ fuel → wpT P ops Q S B p a w → wpAnyB P md ops Q S B fuel listed a w
  | .n, fuel, listed, a, w, hp, _, h => by
    simp only [ptOk, List.isEmpty_iff] at hp
    cases fuel with
    | zero => exact ⟨hp, h⟩
    | succ n => exact ⟨fun _ => h, by rw [hp]; simp⟩
  | .c i k r, fuel, listed, a, w, hp, hf, h => by
    cases fuel with
    | zero => simp [PT.len] at hf
    | succ n =>
      have hf' : r.len ≤ n := by simpa [PT.len] using hf
      simp only [ptOk, Bool.and_eq_true] at hp
      obtain ⟨hk, hrest⟩ := hp
      match k with
      | 0 =>
        simp only [Bool.and_eq_true] at hk
        obtain ⟨o, v, ho, hy, hcont⟩ := h
        exact wpAnyB_first ho (Region.noSelect_spec hs) (fun c a w => hQ o.dst v c a w) (fun _ _ _ _ _ _ _ h => h) n listed a w (Region.free_spec ho hk.1) (by simpa using hk.2) hy trivial (wpAnyB_of_T hs hQ r n _ _ _ hrest hf' hcont)
      | 1 =>
        simp only [Bool.and_eq_true] at hk
        obtain ⟨o, v, ho, hy, hS, hcont⟩ := h
        exact wpAnyB_first ho (Region.noSelect_spec hs) (fun c a w => hQ o.dst v c a w) (fun j oj hj hno w w' hSS hSw => hSS (waits_spec hk.2 j oj hj hno) hSw) n listed a w (Region.free_spec ho hk.1.1) (by simpa using hk.1.2) hy hS (wpAnyB_of_T hs hQ r n _ _ _ hrest hf' hcont)
      | k + 2 =>
        have hr : Region.ready md ops listed = [i] := by simpa using hk
        refine ⟨fun h0 => (by rw [hr] at h0; cases h0), fun j hj => ?_⟩
        rw [hr] at hj
        obtain rfl : j = i := by simpa using hj
        unfold wpT at h
        exact wpOp_mono (fun a' w' h' => ⟨h'.1, wpAnyB_of_T hs hQ r n _ a' w' hrest hf' h'.2⟩) h
  | .f i j p q, fuel, listed, a, w, hp, hf, h => by
    cases fuel with
    | zero => simp [PT.len] at hf
    | succ n =>
      have hf1 : p.len ≤ n := by simp only [PT.len] at hf; omega
      have hf2 : q.len ≤ n := by simp only [PT.len] at hf; omega
      simp only [ptOk, Bool.and_eq_true] at hp
      obtain ⟨⟨hk, hp1⟩, hp2⟩ := hp
      have hr : Region.ready md ops listed = [i, j] := by simpa using hk
      refine ⟨fun h0 => (by rw [hr] at h0; cases h0), fun x hx => ?_⟩
      rw [hr] at hx
      unfold wpT at h
      rcases List.mem_cons.1 hx with rfl | hx
      · exact wpOp_mono (fun a' w' h' => ⟨h'.1, wpAnyB_of_T hs hQ p n _ a' w' hp1 hf1 h'.2⟩) h.1
      · obtain rfl : x = j := by simpa using hx
        exact wpOp_mono (fun a' w' h' => ⟨h'.1, wpAnyB_of_T hs hQ q n _ a' w' hp2 hf2 h'.2⟩) h.2
theorem wp_region_T {id : Nat} {a : Act} {w : World} (B : List Nat) (p : PT) (S : World → Prop) (hm : P.follows .mixedOrders = true)
    (hc : (Region.noSelect ops && ptOk .any ops B p (Array.replicate ops.size false) && decide (p.len ≤ ops.size)) = true)
    (hQ : ∀ d v c a w, Q (.panic c) (Act.put a d v) w → Q (.panic c) a w) (h : wpT P ops Q S B p a w.drew) : (Code.region id ops true).wp P Q a w := by
  simp only [Bool.and_eq_true, decide_eq_true_eq] at hc
  exact wp_region_any hm (wpAny_of_B (S := S) (B := B) _ _ _ _ (wpAnyB_of_T hc.1.1 hQ p _ _ _ _ hc.1.2 hc.2 h))
theorem T_nil {a : Act} {w : World} (h : Q .normal a w) : wpT P ops Q S B .n a w := h
theorem T_take {i : Nat} {r : PT} {a : Act} {w : World} {o : Oper} {v : Value} (ho : ops[i]? = some o) (hw : Region.wanted o (yielded ops a.tmps) = true) (hr : ∀ w, (execOp a.eval o).run P w = .ok (.value v) w)
    (h : wpT P ops Q S B r (a.put o.dst v) w) : wpT P ops Q S B (.c i 0 r) a w := ⟨o, v, ho, .inl ⟨hw, fun w _ => hr w⟩, h⟩
theorem T_held {i : Nat} {r : PT} {a : Act} {w : World} {o : Oper} {v : Value} (ho : ops[i]? = some o) (hw : Region.wanted o (yielded ops a.tmps) = true) (hS : S w) (hr : ∀ w, S w → (execOp a.eval o).run P w = .ok (.value v) w)
    (h : wpT P ops Q S B r (a.put o.dst v) w) : wpT P ops Q S B (.c i 1 r) a w := ⟨o, v, ho, .inl ⟨hw, hr⟩, hS, h⟩
theorem T_do {i : Nat} {r : PT} {a : Act} {w : World} {o : Oper} (ho : ops[i]? = some o) (hw : Region.wanted o (yielded ops a.tmps) = true)
    (h : ∀ K : Act → World → Prop, (∀ a' w', S w' → wpT P ops Q S B r a' w' → K a' w') → o.wp P a w K Q) : wpT P ops Q S B (.c i 2 r) a w := by
  unfold wpT
  exact wpOp_step ho fun K hK => by rw [if_pos hw]; exact h K fun a' w' hS hp => hK a' w' ⟨fun _ _ => hS, hp⟩
theorem T_end {i : Nat} {r : PT} {a : Act} {w : World} {o : Oper} (ho : ops[i]? = some o) (hB : B.contains i = true) (hw : Region.wanted o (yielded ops a.tmps) = true)
    (h : ∀ K : Act → World → Prop, (∀ a' w', wpT P ops Q S B r a' w' → K a' w') → o.wp P a w K Q) : wpT P ops Q S B (.c i 3 r) a w := by
  unfold wpT
  exact wpOp_step ho fun K hK => by rw [if_pos hw]; exact h K fun a' w' hp => hK a' w' ⟨fun hb => (by rw [hB] at hb; cases hb), hp⟩
theorem T_fork {i j : Nat} {p q : PT} {a : Act} {w : World} {oi oj : Oper} (hi : ops[i]? = some oi) (hj : ops[j]? = some oj) (wi : Region.wanted oi (yielded ops a.tmps) = true) (wj : Region.wanted oj (yielded ops a.tmps) = true)
    (h1 : ∀ K : Act → World → Prop, (∀ a' w', S w' → wpT P ops Q S B p a' w' → K a' w') → oi.wp P a w K Q) (h2 : ∀ K : Act → World → Prop, (∀ a' w', S w' → wpT P ops Q S B q a' w' → K a' w') → oj.wp P a w K Q) : wpT P ops Q S B (.f i j p q) a w := by
  unfold wpT
  exact ⟨wpOp_step hi fun K hK => by rw [if_pos wi]; exact h1 K fun a' w' hS hp => hK a' w' ⟨fun _ _ => hS, hp⟩, wpOp_step hj fun K hK => by rw [if_pos wj]; exact h2 K fun a' w' hS hp => hK a' w' ⟨fun _ _ => hS, hp⟩⟩
end
end Go.Proofs.YtcccdlmngddalaaGreat
