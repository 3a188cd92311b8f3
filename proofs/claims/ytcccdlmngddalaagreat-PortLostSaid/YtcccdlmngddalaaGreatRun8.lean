/- A region that draws its order, by a plan with facts of what was read; for a run. -/
import Derived.Test.YtcccdlmngddalaaGreatRun7
import Derived.OrdersHeld
import Derived.OrdersIn
import Derived.TacticsIn
set_option linter.unusedVariables false
set_option linter.unusedSimpArgs false
set_option linter.unusedSectionVars false
namespace Go.Proofs.YtcccdlmngddalaaGreat
open Go.RowKit
namespace R
variable [vl : Val]
section
variable {P : Program} {ops : Array Oper} {Q : Exit → Act → World → Prop} {md : Region.Mode} {rd : Option Nat}
def FW (rd : Option Nat) : Fence := { fn := fun _ => True, depth := none, alive := false, round := rd }
def Sm (rd : Option Nat) (ops : Array Oper) : Prop := ∀ (j : Nat) o, ops[j]? = some o → ∀ ρ, Oper.semAt rd ρ o = execOp ρ o
theorem Oper.wpIn_iff {o : Oper} {a : Act} {w : World} {K : Act → World → Prop} (hs : ∀ ρ, Oper.semAt rd ρ o = execOp ρ o) : o.wpIn (FW rd) 0 P a w K Q ↔ o.uponIn (FW rd) 0 P a K Q ((execOp a.eval o).run P w) := by
  unfold Go.Oper.wpIn
  have e : Oper.semAt (FW rd).round a.eval o = execOp a.eval o := hs a.eval
  rw [e]
  exact ⟨fun h => h.2, fun h => ⟨fun _ _ => trivial, h⟩⟩
theorem yi_wpOpIn (hsm : Sm rd ops) {S : World → Prop} {i : Nat} {o : Oper} {v : Value} {a : Act} (hi : ops[i]? = some o) (hy : YieldsIf P ops S o v a)
    {K : Act → World → Prop} {w : World} (hS : S w) (h : K (a.put o.dst v) w) : wpOpIn (FW rd) 0 P ops Q i K a w := by
  unfold wpOpIn
  simp only [hi]
  rcases hy with ⟨hw, hv⟩ | ⟨hw, rfl⟩
  · simp only [hw, if_true]
    rw [Oper.wpIn_iff (hsm i o hi), hv w hS]
    exact h
  · simp only [hw, Bool.false_eq_true, if_false]; exact ⟨fun _ _ => trivial, h⟩
theorem wpOpIn_putIf (hsm : Sm rd ops) {S : World → Prop} {i j : Nat} {oi oj : Oper} {v : Value} (hi : ops[i]? = some oi) (hj : ops[j]? = some oj) (hap : oi.apart ops oj = true)
    (hsi : ∀ cs b, oi.op ≠ .select cs b) (hsj : ∀ cs b, oj.op ≠ .select cs b)
    (hQ : ∀ c a w, Q (.panic c) (a.put oi.dst v) w → Q (.panic c) a w) {K : Act → World → Prop} {a : Act} {w : World}
    (hy : YieldsIf P ops S oi v a) (h : wpOpIn (FW rd) 0 P ops Q j K (a.put oi.dst v) w) :
    wpOpIn (FW rd) 0 P ops Q j (fun a' w' => YieldsIf P ops S oi v a' ∧ K (a'.put oi.dst v) w') a w := by
  obtain ⟨h1, h2, h3⟩ := Oper.apart_spec hap
  have keep : ∀ (a : Act), YieldsIf P ops S oi v a → ∀ u, YieldsIf P ops S oi v (a.put oj.dst u) := fun a hy u =>
    hy.of_same (execOp_put oi hsi a oj.dst u h3) (wanted_put oi a oj.dst u h3)
  have keepD : ∀ d, YieldsIf P ops S oi v { a with defers := d :: a.defers } := fun d => hy.of_same rfl rfl
  have hso := hsm j oj hj
  unfold wpOpIn at *
  simp only [hj] at *
  rw [wanted_put oj a oi.dst v h1] at h
  split
  · rename_i hw
    simp only [hw, if_true] at h
    rw [Oper.wpIn_iff hso] at h ⊢
    rw [execOp_put oj hsj a oi.dst v h1] at h
    generalize (execOp a.eval oj).run P w = r at *
    cases r with
    | ok x w' =>
      cases x <;> simp only [Oper.uponIn] at h ⊢
      case value u => exact ⟨keep a hy u, by rw [← Act.put_comm a v u h2]; exact h⟩
      case skip => exact ⟨keep a hy _, by rw [← Act.put_comm a v undef h2]; exact h⟩
      case defer d =>
        refine ⟨keep _ (keepD d) _, ?_⟩
        rw [← Act.put_comm _ v undef h2, ← Act.put_defers]
        exact h
      case enter f args =>
        refine ⟨h.1, CallsIn.mono h.2 fun e w'' he => ?_⟩
        cases e with
        | returned u => exact ⟨keep a hy u, by rw [← Act.put_comm a v u h2]; exact he⟩
        | panicked c => exact hQ _ _ _ he
        | outgrown => exact he
      case row row args => exact ⟨h.1, RowsIn.mono h.2 fun u w'' he => ⟨keep a hy u, by rw [← Act.put_comm a v u h2]; exact he⟩⟩
      case round l f tmps assign body =>
        refine ⟨h.1, RoundIn.mono h.2 fun e w'' he => ?_⟩
        cases e with
        | returned u => exact ⟨keep a hy u, by rw [← Act.put_comm a v u h2]; exact he⟩
        | panicked c => exact hQ _ _ _ he
        | outgrown => exact he
    | halt x w' =>
      cases x <;> simp only [Oper.uponIn] at h ⊢
      case panic u => exact hQ _ _ _ h
  · rename_i hw
    simp only [hw] at h
    exact ⟨fun _ _ => trivial, keep a hy _, by rw [← Act.put_comm a v undef h2]; exact h.2⟩
def wt (md : Region.Mode) (ops : Array Oper) (j k : Nat) : Bool := match ops[j]? with | some o => o.after.any fun e => Region.binds md e && e.on == k | none => true
def wpAnyF (rd : Option Nat) (P : Program) (md : Region.Mode) (ops : Array Oper) (Q : Exit → Act → World → Prop) (F : Nat → World → Prop) : Nat → Array Bool → Act → World → Prop
  | 0, listed, a, w => Region.ready md ops listed = [] ∧ Q .normal a w
  | fuel + 1, listed, a, w => (Region.ready md ops listed = [] → Q .normal a w) ∧
    ∀ j ∈ Region.ready md ops listed, wpOpIn (FW rd) 0 P ops Q j (fun a' w' => (∀ k, wt md ops j k = false → F k w → F k w') ∧ wpAnyF rd P md ops Q F fuel (listed.setIfInBounds j true) a' w') a w
theorem wpAnyIn_of_F {F : Nat → World → Prop} : ∀ (fuel : Nat) (listed : Array Bool) (a : Act) (w : World), wpAnyF rd P md ops Q F fuel listed a w → wpAnyIn (FW rd) 0 P md ops Q fuel listed a w
  | 0, _, _, _, h => h
  | fuel + 1, _, _, _, h => ⟨h.1, fun i hi => wpOpIn_mono (fun a' w' h' => wpAnyIn_of_F fuel _ a' w' h'.2) (h.2 i hi)⟩
theorem wpAnyF_weaken {F F' : Nat → World → Prop} (hF : ∀ k, F k = F' k ∨ F k = fun _ => True) : ∀ (fuel : Nat) (listed : Array Bool) (a : Act) (w : World), wpAnyF rd P md ops Q F' fuel listed a w → wpAnyF rd P md ops Q F fuel listed a w
  | 0, _, _, _, h => h
  | fuel + 1, _, _, _, h => ⟨h.1, fun i hi => wpOpIn_mono (fun a' w' h' => ⟨fun k hk hw => (by
      rcases hF k with e | e
      · rw [e] at hw ⊢; exact h'.1 k hk hw
      · rw [e]; trivial), wpAnyF_weaken hF fuel _ a' w' h'.2⟩) (h.2 i hi)⟩
theorem wt_false {j k : Nat} {oj : Oper} (hj : ops[j]? = some oj) (hno : ∀ e ∈ oj.after, Region.binds md e = true → e.on ≠ k) : wt md ops j k = false := by
  unfold wt
  rw [hj]
  cases hb : (oj.after.any fun e => Region.binds md e && e.on == k) with
  | false => exact hb
  | true =>
    obtain ⟨e, he, hx⟩ := Array.any_eq_true'.1 hb
    simp only [Bool.and_eq_true, beq_iff_eq] at hx
    exact absurd hx.2 (hno e he hx.1)
theorem wpAnyF_first (hsm : Sm rd ops) {F : Nat → World → Prop} {i : Nat} {oi : Oper} {v : Value} (hi : ops[i]? = some oi) (hsel : ∀ (j : Nat) (o : Oper) cs b, ops[j]? = some o → o.op ≠ .select cs b)
    (hQ : ∀ c a w, Q (.panic c) (a.put oi.dst v) w → Q (.panic c) a w) :
    ∀ (fuel : Nat) (listed : Array Bool) (a : Act) (w : World),
      (∀ j oj, ops[j]? = some oj → j ≠ i → listed.getD j true = false → (∀ e ∈ oj.after, Region.binds md e = true → e.on ≠ i) → oi.apart ops oj = true) →
      i ∈ Region.ready md ops listed → YieldsIf P ops (F i) oi v a → F i w →
      wpAnyF rd P md ops Q F fuel (listed.setIfInBounds i true) (a.put oi.dst v) w → wpAnyF rd P md ops Q F (fuel + 1) listed a w := by
  intro fuel
  induction fuel with
  | zero =>
    intro listed a w _ hr hy hw H
    refine ⟨fun h => (by rw [h] at hr; cases hr), fun j hj => ?_⟩
    by_cases hji : j = i
    · subst hji; exact yi_wpOpIn hsm hi hy hw ⟨fun _ _ h => h, H⟩
    · have := ready_mono hj hji
      rw [H.1] at this
      cases this
  | succ fuel ih =>
    intro listed a w hfree hr hy hw H
    refine ⟨fun h => (by rw [h] at hr; cases hr), fun j hj => ?_⟩
    by_cases hji : j = i
    · subst hji; exact yi_wpOpIn hsm hi hy hw ⟨fun _ _ h => h, H⟩
    · have h1 := H.2 j (ready_mono hj hji)
      obtain ⟨hjun, oj, hoj, hall⟩ := mem_ready.1 hj
      have hnot : ∀ e ∈ oj.after, Region.binds md e = true → e.on ≠ i := fun e he hb heq => by
        have h2 := hall e he hb
        have h0 := (mem_ready.1 hr).1
        rw [heq] at h2
        rcases Nat.lt_or_ge i listed.size with h' | h'
        · simp [h'] at h0 h2; rw [h0] at h2; cases h2
        · simp [Array.getElem?_eq_none h'] at h2
      have h2 := wpOpIn_putIf hsm hi hoj (hfree j oj hoj hji hjun hnot) (fun cs b => hsel i oi cs b hi) (fun cs b => hsel j oj cs b hoj) hQ hy h1
      have hfree' : ∀ k ok, ops[k]? = some ok → k ≠ i → (listed.setIfInBounds j true).getD k true = false →
          (∀ e ∈ ok.after, Region.binds md e = true → e.on ≠ i) → oi.apart ops ok = true := fun k ok hk hki hun hno => by
        refine hfree k ok hk hki ?_ hno
        by_cases hjk : j = k
        · subst hjk; exact hjun
        · rw [getD_set_ne true hjk] at hun; exact hun
      refine wpOpIn_mono (fun a' w' h3 => ⟨h3.2.1, ?_⟩) h2
      refine ih (listed.setIfInBounds j true) a' w' hfree' (ready_mono hr (Ne.symm hji)) h3.1 (h3.2.1 i (wt_false hoj hnot) hw) ?_
      rw [Array.setIfInBounds_comm _ _ hji]
      exact h3.2.2
inductive Pl where
  | nil
  | go (i : Nat) (eff : Bool) (r : Pl)
  | two (p q : Pl)
  | al (i : Nat) (s : Pl)
  | cm (r : Pl)
def Pl.len : Pl → Nat
  | .nil => 0
  | .go _ _ r => r.len + 1
  | .two p q => max p.len q.len
  | .al _ s => s.len + 1
  | .cm r => r.len
def Pl.hd : Pl → List Nat
  | .nil => []
  | .go i e _ => cond e [i] []
  | .two p q => p.hd ++ q.hd
  | .al _ _ => []
  | .cm _ => []
def Pl.ok (md : Region.Mode) (ops : Array Oper) : Option Nat → Bool → Pl → Array Bool → Bool
  | none, _, .nil, l => (Region.ready md ops l).isEmpty
  | none, _, .go i false r, l => Region.free md ops l i && (Region.ready md ops l).contains i && r.ok md ops none true (l.setIfInBounds i true)
  | none, s, .go i true r, l => (!s || Region.ready md ops l == [i]) && r.ok md ops none true (l.setIfInBounds i true)
  | none, s, .two p q, l => (!s || (!(Region.ready md ops l).isEmpty && (Region.ready md ops l).all fun j => (p.hd ++ q.hd).contains j)) && p.ok md ops none false l && q.ok md ops none false l
  | none, s, .al i r, l => s && r.ok md ops (some i) true l
  | none, s, .cm r, l => s && r.ok md ops none true l
  | some i, _, .go k false r, l => Region.free md ops l k && (Region.ready md ops l).contains k && (Region.free md ops (l.setIfInBounds i true) k && (Region.ready md ops (l.setIfInBounds i true)).contains k) && r.ok md ops (some i) true (l.setIfInBounds k true)
  | some i, _, .go j true r, l => !(Region.ready md ops l).isEmpty && ((Region.ready md ops l).all fun x => x == i || x == j) && Region.ready md ops (l.setIfInBounds i true) == [j] && r.ok md ops (some i) true (l.setIfInBounds j true)
  | some i, _, .cm r, l => Region.ready md ops l == [i] && r.ok md ops none true (l.setIfInBounds i true)
  | some _, _, _, _ => false
theorem Pl.ok_ex (i : Nat) : ∀ (p : Pl) (s : Bool) (l : Array Bool), p.ok md ops (some i) s l = true → p.ok md ops none true (l.setIfInBounds i true) = true
  | .go k false r, s, l, h => by
    simp only [Pl.ok, Bool.and_eq_true] at h ⊢
    have h2 := Pl.ok_ex i r true _ h.2
    refine ⟨h.1.2, ?_⟩
    by_cases e : k = i
    · subst e; exact h2
    · rw [Array.setIfInBounds_comm _ _ (Ne.symm e)]; exact h2
  | .go j true r, s, l, h => by
    simp only [Pl.ok, Bool.and_eq_true] at h ⊢
    have h2 := Pl.ok_ex i r true _ h.2
    refine ⟨by simpa using h.1.2, ?_⟩
    by_cases e : j = i
    · subst e; exact h2
    · rw [Array.setIfInBounds_comm _ _ (Ne.symm e)]; exact h2
  | .cm r, s, l, h => by
    simp only [Pl.ok, Bool.and_eq_true] at h ⊢
    exact ⟨trivial, h.2⟩
  | .nil, _, _, h => by simp [Pl.ok] at h
  | .two _ _, _, _, h => by simp [Pl.ok] at h
  | .al _ _, _, _, h => by simp [Pl.ok] at h
def upF (F : Nat → World → Prop) (i : Nat) (T : World → Prop) : Nat → World → Prop := fun k => if k = i then T else F k
def wpP (rd : Option Nat) (P : Program) (md : Region.Mode) (ops : Array Oper) (Q : Exit → Act → World → Prop) : Option Nat → (Nat → World → Prop) → Pl → Act → World → Prop
  | none, _, .nil, a, w => Q .normal a w
  | u, F, .go i false r, a, w => ∃ T o v, (F i = fun _ => True) ∧ ops[i]? = some o ∧ YieldsIf P ops T o v a ∧ T w ∧ wpP rd P md ops Q u (upF F i T) r (a.put o.dst v) w
  | none, F, .go i true r, a, w => wpOpIn (FW rd) 0 P ops Q i (fun a' w' => (∀ k, wt md ops i k = false → F k w → F k w') ∧ wpP rd P md ops Q none F r a' w') a w
  | none, F, .two p q, a, w => wpP rd P md ops Q none F p a w ∧ wpP rd P md ops Q none F q a w
  | none, F, .al i s, a, w => wpP rd P md ops Q (some i) F s a w
  | none, F, .cm r, a, w => wpP rd P md ops Q none F r a w
  | some i, F, .go j true r, a, w => wpOpIn (FW rd) 0 P ops Q j (fun a' w' => (∀ k, wt md ops j k = false → F k w → F k w') ∧ wpP rd P md ops Q (some i) F r a' w') a w ∧
      wpOpIn (FW rd) 0 P ops Q i (fun a' w' => (∀ k, wt md ops i k = false → F k w → F k w') ∧ wpOpIn (FW rd) 0 P ops Q j (fun a'' w'' => (∀ k, wt md ops j k = false → F k w' → F k w'') ∧ wpP rd P md ops Q none F r a'' w'') a' w') a w
  | some i, F, .cm r, a, w => wpOpIn (FW rd) 0 P ops Q i (fun a' w' => (∀ k, wt md ops i k = false → F k w → F k w') ∧ wpP rd P md ops Q none F r a' w') a w
  | some _, _, _, _, _ => False
theorem wpAnyF_of (hsm : Sm rd ops) (hs : Region.noSelect ops = true) (hQ : ∀ d v c a w, Q (.panic c) (Act.put a d v) w → Q (.panic c) a w) : ∀ (p : Pl) (F : Nat → World → Prop) (fuel : Nat) (l : Array Bool) (a : Act) (w : World),
    (p.len ≤ fuel → wpP rd P md ops Q none F p a w →
      (p.ok md ops none true l = true → wpAnyF rd P md ops Q F fuel l a w) ∧
      (p.ok md ops none false l = true → ∀ j ∈ p.hd, ∀ f, fuel = f + 1 → wpOpIn (FW rd) 0 P ops Q j (fun a' w' => (∀ k, wt md ops j k = false → F k w → F k w') ∧ wpAnyF rd P md ops Q F f (l.setIfInBounds j true) a' w') a w)) ∧
    (∀ i s, p.len + 1 ≤ fuel → wpP rd P md ops Q (some i) F p a w → p.ok md ops (some i) s l = true → wpAnyF rd P md ops Q F fuel l a w)
  | .nil, F, fuel, l, a, w => by
    refine ⟨fun _ h => ⟨fun hp => ?_, fun _ j hj => by cases hj⟩, fun i s _ _ h => by simp [Pl.ok] at h⟩
    simp only [Pl.ok, List.isEmpty_iff] at hp
    cases fuel with
    | zero => exact ⟨hp, h⟩
    | succ n => exact ⟨fun _ => h, by rw [hp]; simp⟩
  | .go i false r, F, fuel, l, a, w => by
    refine ⟨fun hf h => ⟨fun hp => ?_, fun _ j hj => by cases hj⟩, fun u s hf h hp => ?_⟩
    · cases fuel with
      | zero => simp [Pl.len] at hf
      | succ n =>
        simp only [Pl.ok, Bool.and_eq_true] at hp
        obtain ⟨T, o, v, hF, ho, hy, hT, hc⟩ := h
        have ih := ((wpAnyF_of hsm hs hQ r (upF F i T) n (l.setIfInBounds i true) _ _).1 (by simpa [Pl.len] using hf) hc).1 hp.2
        have h1 := wpAnyF_first hsm (F := upF F i T) (v := v) ho (Region.noSelect_spec hs) (fun c a w => hQ o.dst v c a w) n l a w (Region.free_spec ho hp.1.1) (by simpa using hp.1.2) (by simpa [upF] using hy) (by simpa [upF] using hT) ih
        refine wpAnyF_weaken (fun k => ?_) _ _ _ _ h1
        unfold upF
        split
        · rename_i e; subst e; exact .inr hF
        · exact .inl rfl
    · cases fuel with
      | zero => simp [Pl.len] at hf
      | succ n =>
        simp only [Pl.ok, Bool.and_eq_true] at hp
        obtain ⟨T, o, v, hF, ho, hy, hT, hc⟩ := h
        have ih := (wpAnyF_of hsm hs hQ r (upF F i T) n (l.setIfInBounds i true) _ _).2 u true (by simpa [Pl.len] using hf) hc hp.2
        have h1 := wpAnyF_first hsm (F := upF F i T) (v := v) ho (Region.noSelect_spec hs) (fun c a w => hQ o.dst v c a w) n l a w (Region.free_spec ho hp.1.1.1) (by simpa using hp.1.1.2) (by simpa [upF] using hy) (by simpa [upF] using hT) ih
        refine wpAnyF_weaken (fun k => ?_) _ _ _ _ h1
        unfold upF
        split
        · rename_i e; subst e; exact .inr hF
        · exact .inl rfl
  | .go i true r, F, fuel, l, a, w => by
    refine ⟨fun hf h => ?_, fun u s hf h hp => ?_⟩
    · have key : r.ok md ops none true (l.setIfInBounds i true) = true → ∀ f, fuel = f + 1 → wpOpIn (FW rd) 0 P ops Q i (fun a' w' => (∀ k, wt md ops i k = false → F k w → F k w') ∧ wpAnyF rd P md ops Q F f (l.setIfInBounds i true) a' w') a w := by
        intro hr f hfe
        subst hfe
        unfold wpP at h
        exact wpOpIn_mono (fun a' w' h' => ⟨h'.1, ((wpAnyF_of hsm hs hQ r F f _ _ _).1 (by simpa [Pl.len] using hf) h'.2).1 hr⟩) h
      refine ⟨fun hp => ?_, fun hp j hj f hfe => ?_⟩
      · simp only [Pl.ok, Bool.not_true, Bool.false_or, Bool.and_eq_true] at hp
        have hr : Region.ready md ops l = [i] := by simpa using hp.1
        cases fuel with
        | zero => simp [Pl.len] at hf
        | succ n =>
          refine ⟨fun h0 => (by rw [hr] at h0; cases h0), fun j hj => ?_⟩
          rw [hr] at hj
          obtain rfl : j = i := by simpa using hj
          exact key hp.2 n rfl
      · simp only [Pl.ok, Bool.not_false, Bool.true_or, Bool.true_and] at hp
        obtain rfl : j = i := by simpa [Pl.hd] using hj
        exact key hp f hfe
    · have hex := Pl.ok_ex u (.go i true r) s l hp
      simp only [Pl.ok, Bool.and_eq_true] at hp
      obtain ⟨⟨⟨hne, hall⟩, hrx⟩, hok⟩ := hp
      unfold wpP at h
      cases fuel with
      | zero => simp [Pl.len] at hf
      | succ n =>
        have hf' : r.len + 1 ≤ n := by simpa [Pl.len] using hf
        refine ⟨fun h0 => (by rw [h0] at hne; simp at hne), fun x hx => ?_⟩
        have hxx := List.all_eq_true.1 hall x hx
        simp only [Bool.or_eq_true, beq_iff_eq] at hxx
        by_cases e : x = i
        · subst e
          exact wpOpIn_mono (fun a' w' h' => ⟨h'.1, (wpAnyF_of hsm hs hQ r F n _ _ _).2 u true hf' h'.2 hok⟩) h.1
        · obtain rfl := hxx.resolve_right e
          refine wpOpIn_mono (fun a' w' h' => ⟨h'.1, ?_⟩) h.2
          have hrx' : Region.ready md ops (l.setIfInBounds x true) = [i] := by simpa using hrx
          simp only [Pl.ok, Bool.and_eq_true] at hex
          cases n with
          | zero => omega
          | succ m =>
            refine ⟨fun h0 => (by rw [hrx'] at h0; cases h0), fun y hy => ?_⟩
            rw [hrx'] at hy
            obtain rfl : y = i := by simpa using hy
            exact wpOpIn_mono (fun a' w' h'' => ⟨h''.1, ((wpAnyF_of hsm hs hQ r F m _ _ _).1 (by omega) h''.2).1 hex.2⟩) h'.2
  | .two p q, F, fuel, l, a, w => by
    refine ⟨fun hf h => ?_, fun i s _ _ h => by simp [Pl.ok] at h⟩
    have hp1 : p.len ≤ fuel := by simp [Pl.len] at hf; omega
    have hq1 : q.len ≤ fuel := by simp [Pl.len] at hf; omega
    have ip := (wpAnyF_of hsm hs hQ p F fuel l a w).1 hp1 h.1
    have iq := (wpAnyF_of hsm hs hQ q F fuel l a w).1 hq1 h.2
    refine ⟨fun hp => ?_, fun hp j hj f hfe => ?_⟩
    · simp only [Pl.ok, Bool.not_true, Bool.false_or, Bool.and_eq_true] at hp
      obtain ⟨⟨⟨h0, h1⟩, h2⟩, h3⟩ := hp
      cases fuel with
      | zero =>
        have e1 : ∀ (p : Pl), p.len ≤ 0 → p.hd = [] := by
          intro p hp
          induction p with
          | nil => rfl
          | go _ _ _ => simp [Pl.len] at hp
          | two p q ih1 ih2 => simp [Pl.len] at hp; simp [Pl.hd, ih1 (by omega), ih2 (by omega)]
          | al _ _ => rfl
          | cm _ => rfl
        cases hr : Region.ready md ops l with
        | nil => simp [hr] at h0
        | cons x xs =>
          rw [hr] at h1
          simp [e1 p hp1, e1 q hq1] at h1
      | succ n =>
        refine ⟨fun hr => (by rw [hr] at h0; simp at h0), fun j hj => ?_⟩
        have := List.all_eq_true.1 h1 j hj
        rw [List.contains_iff_mem, List.mem_append] at this
        rcases this with hm | hm
        · exact ip.2 h2 j hm n rfl
        · exact iq.2 h3 j hm n rfl
    · simp only [Pl.ok, Bool.not_false, Bool.true_or, Bool.true_and, Bool.and_eq_true] at hp
      simp only [Pl.hd, List.mem_append] at hj
      rcases hj with hm | hm
      · exact ip.2 hp.1 j hm f hfe
      · exact iq.2 hp.2 j hm f hfe
  | .al i r, F, fuel, l, a, w => by
    refine ⟨fun hf h => ⟨fun hp => ?_, fun hp => by simp [Pl.ok] at hp⟩, fun i s _ _ h => by simp [Pl.ok] at h⟩
    simp only [Pl.ok, Bool.true_and] at hp
    exact (wpAnyF_of hsm hs hQ r F fuel l a w).2 i true (by simpa [Pl.len] using hf) h hp
  | .cm r, F, fuel, l, a, w => by
    refine ⟨fun hf h => ⟨fun hp => ?_, fun hp => by simp [Pl.ok] at hp⟩, fun i s hf h hp => ?_⟩
    · simp only [Pl.ok, Bool.true_and] at hp
      exact ((wpAnyF_of hsm hs hQ r F fuel l a w).1 (by simpa [Pl.len] using hf) h).1 hp
    · simp only [Pl.ok, Bool.and_eq_true] at hp
      have hr : Region.ready md ops l = [i] := by simpa using hp.1
      unfold wpP at h
      cases fuel with
      | zero => simp [Pl.len] at hf
      | succ n =>
        refine ⟨fun h0 => (by rw [hr] at h0; cases h0), fun x hx => ?_⟩
        rw [hr] at hx
        obtain rfl : x = i := by simpa using hx
        exact wpOpIn_mono (fun a' w' h' => ⟨h'.1, ((wpAnyF_of hsm hs hQ r F n _ _ _).1 (by simpa [Pl.len] using hf) h'.2).1 hp.2⟩) h
theorem wp_region_pl (hsm : Sm rd ops) {id : Nat} {a : Act} {w : World} (p : Pl) (hm : P.follows .mixedOrders = true)
    (hc : (Region.noSelect ops && p.ok .any ops none true (Array.replicate ops.size false) && decide (p.len ≤ ops.size)) = true)
    (hQ : ∀ d v c a w, Q (.panic c) (Act.put a d v) w → Q (.panic c) a w) (h : wpP rd P .any ops Q none (fun _ _ => True) p a w.drew) : (Code.region id ops true).wpIn (FW rd) 0 P Q a w := by
  simp only [Bool.and_eq_true, decide_eq_true_eq] at hc
  exact wpIn_region_any hm (wpAnyIn_of_F _ _ _ _ (((wpAnyF_of hsm hc.1.1 hQ p (fun _ _ => True) _ _ a _).1 hc.2 h).1 hc.1.2))
def freeOp : Op → Bool
  | .move _ | .assign _ | .pick _ _ _ | .nilCheck _ | .fieldAddr _ _ _ | .indexAddr _ _ _ | .binOp _ _ _ _ _ | .unOp _ _ _ | .convert _ _ _ | .field _ _ _ | .index _ _ _ | .extract _ _ | .slice _ _ _ _ _ | .build _ _ | .makeFunc _ _ _ => true
  | .load _ _ | .lookup _ _ _ _ => true
  | .call c => match c.callee with | .builtin .len | .builtin .min | .builtin .max | .builtin .cap => true | _ => false
  | _ => false
def firstFree (ops : Array Oper) (l : Array Bool) : List Nat → Option Nat
  | [] => none
  | i :: r => match ops[i]? with
    | some o => cond (freeOp o.op && Region.free .any ops l i) (some i) (firstFree ops l r)
    | none => none
def firstAl (ops : Array Oper) : List Nat → Option Nat
  | [] => none
  | i :: r => match ops[i]? with
    | some o => (match o.op, o.guard, o.dst with | .alloc _, none, some _ => some i | _, _, _ => firstAl ops r)
    | none => none
def firstFree2 (ops : Array Oper) (l lx : Array Bool) (rx : List Nat) : List Nat → Option Nat
  | [] => none
  | i :: r => match ops[i]? with
    | some o => cond (freeOp o.op && (rx.contains i && (Region.free .any ops l i && Region.free .any ops lx i))) (some i) (firstFree2 ops l lx rx r)
    | none => none
def mkSg (ops : Array Oper) (rest : Array Bool → Option Pl) (i : Nat) : Nat → Array Bool → Option Pl
  | 0, _ => none
  | f + 1, l => match Region.ready .any ops l, Region.ready .any ops (l.setIfInBounds i true) with
    | [x], rx => cond (Nat.beq x i) (match rest (l.setIfInBounds i true) with | some r => some (.cm r) | none => none) none
    | r0, rx => match firstFree2 ops l (l.setIfInBounds i true) rx r0 with
      | some k => (match mkSg ops rest i f (l.setIfInBounds k true) with | some r => some (.go k false r) | none => none)
      | none => (match rx with
        | [j] => (match mkSg ops rest i f (l.setIfInBounds j true) with | some r => some (.go j true r) | none => none)
        | _ => none)
def mkPl (ops : Array Oper) : Nat → Array Bool → Option Pl
  | 0, l => cond (Region.ready .any ops l).isEmpty (some .nil) none
  | f + 1, l => match Region.ready .any ops l with
    | [] => some .nil
    | x :: xs => match firstFree ops l (x :: xs) with
      | some i => (match mkPl ops f (l.setIfInBounds i true) with | some r => some (.go i false r) | none => none)
      | none => (match (match xs with | [] => none | _ => firstAl ops (x :: xs)) with
        | some i => (match mkSg ops (fun l => mkPl ops f l) i f l with
          | some s => some (.al i s)
          | none => forks ops (fun l => mkPl ops f l) l x xs)
        | none => forks ops (fun l => mkPl ops f l) l x xs)
where forks (ops : Array Oper) (rec : Array Bool → Option Pl) (l : Array Bool) : Nat → List Nat → Option Pl
  | x, [] => (match rec (l.setIfInBounds x true) with | some r => some (.go x true r) | none => none)
  | x, y :: ys => (match rec (l.setIfInBounds x true), forks ops rec l y ys with | some r, some q => some (.two (.go x true r) q) | _, _ => none)
def planOf (ops : Array Oper) : Option Pl := mkPl ops ops.size (Array.replicate ops.size false)
def planChk (ops : Array Oper) (p : Pl) : Bool := Region.noSelect ops && p.ok .any ops none true (Array.replicate ops.size false) && decide (p.len ≤ ops.size)
end
end R
end Go.Proofs.YtcccdlmngddalaaGreat
