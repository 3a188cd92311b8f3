/- Rows in order: cmpT orders them; what ref.Of makes of any rows is good: plain, no program in sight. -/
import Derived.Test.YtegjamjognpdkaaGreatRowH
namespace Go.Proofs.YtegjamjognpdkaaGreat
set_option linter.unusedVariables false
set_option linter.unusedSimpArgs false
theorem cmpI_sym (a b : Int) : cmpI b a = - cmpI a b := by
  unfold cmpI
  split <;> split <;> first | rfl | omega | (split <;> first | rfl | omega)
theorem cmpI_lt (a b : Int) : cmpI a b = -1 ↔ a < b := by
  unfold cmpI
  split
  · simp_all
  · split <;> simp_all
theorem cmpI_eq (a b : Int) : cmpI a b = 0 ↔ a = b := by
  unfold cmpI
  split
  · constructor <;> intro h <;> first | (cases h; done) | omega
  · split
    · constructor <;> intro h <;> first | (cases h; done) | omega
    · constructor <;> intro h <;> first | rfl | omega
theorem cmpL_sym : ∀ (l m : List Int), l.length = m.length → cmpL m l = - cmpL l m
  | [], [], _ => rfl
  | a :: l, b :: m, h => by
    have ih := cmpL_sym l m (by simpa using h)
    simp only [cmpL]
    split <;> split <;> first | rfl | omega | (split <;> first | rfl | omega | exact ih)
  | [], _ :: _, h => by simp at h
  | _ :: _, [], h => by simp at h
theorem cmpL_eq : ∀ (l m : List Int), l.length = m.length → (cmpL l m = 0 ↔ l = m)
  | [], [], _ => by simp [cmpL]
  | a :: l, b :: m, h => by
    have ih := cmpL_eq l m (by simpa using h)
    simp only [cmpL]
    split
    · constructor
      · intro h; cases h
      · intro h; injection h with h1 h2; omega
    · split
      · constructor
        · intro h; cases h
        · intro h; injection h with h1 h2; omega
      · rw [ih]
        have : a = b := by omega
        subst this
        simp
  | [], _ :: _, h => by simp at h
  | _ :: _, [], h => by simp at h
theorem cmpL_tr : ∀ (l m k : List Int), l.length = m.length → m.length = k.length → cmpL l m = -1 → cmpL m k = -1 → cmpL l k = -1
  | [], [], _, _, _, h, _ => by simp [cmpL] at h
  | a :: l, b :: m, c :: k, h1, h2, h, g => by
    have ih := cmpL_tr l m k (by simpa using h1) (by simpa using h2)
    simp only [cmpL] at h g ⊢
    by_cases ab : a < b
    · by_cases bc : b < c
      · rw [if_pos (by omega)]
      · rw [if_neg bc] at g
        by_cases cb : c < b
        · rw [if_pos cb] at g; cases g
        · rw [if_pos (by omega)]
    · rw [if_neg ab] at h
      by_cases ba : b < a
      · rw [if_pos ba] at h; cases h
      · rw [if_neg ba] at h
        have : a = b := by omega
        subst this
        by_cases bc : a < c
        · rw [if_pos bc]
        · rw [if_neg bc] at g ⊢
          by_cases cb : c < a
          · rw [if_pos cb] at g; cases g
          · rw [if_neg cb] at g ⊢
            exact ih h g
  | [], _ :: _, _, h, _, _, _ => by simp at h
  | _ :: _, [], _, h, _, _, _ => by simp at h
  | _ :: _, _ :: _, [], _, h, _, _ => by simp at h
theorem cmpA_sym (v v' : Bool) (b b' : List Int) (h : b.length = 16) (h' : b'.length = 16) : cmpA v' b' v b = - cmpA v b v' b' := by
  unfold cmpA
  cases v <;> cases v' <;> simp
  · exact cmpL_sym _ _ (by simp [h, h'])
  · exact cmpL_sym _ _ (by simp [h, h'])
theorem cmpA_0 (v v' : Bool) (b b' : List Int) (h : cmpA v b v' b' = 0) : v = v' := by
  unfold cmpA at h
  cases v <;> cases v' <;> simp_all
theorem cmpA_tr (v v' v'' : Bool) (b b' b'' : List Int) (hb : b.length = 16) (hb' : b'.length = 16) (hb'' : b''.length = 16) (h : cmpA v b v' b' = -1) (g : cmpA v' b' v'' b'' = -1) : cmpA v b v'' b'' = -1 := by
  unfold cmpA at *
  cases v <;> cases v' <;> cases v'' <;> simp_all
  · exact cmpL_tr _ _ _ (by simp [hb, hb']) (by simp [hb', hb'']) h g
  · exact cmpL_tr _ _ _ (by simp [hb, hb']) (by simp [hb', hb'']) h g
/-- .. and where two stand alike a third stands to both alike -/
theorem cmpA_alike (v v' v'' : Bool) (b b' b'' : List Int) (hb : b.length = 16) (hb' : b'.length = 16) (h : cmpA v b v' b' = 0) : cmpA v b v'' b'' = cmpA v' b' v'' b'' ∧ cmpA v'' b'' v b = cmpA v'' b'' v' b' := by
  have e := cmpA_0 _ _ _ _ h
  subst e
  unfold cmpA at h
  rw [if_pos rfl] at h
  cases v with
  | true =>
    have := (cmpL_eq b b' (by rw [hb, hb'])).1 h
    rw [this]
    exact ⟨rfl, rfl⟩
  | false =>
    have := (cmpL_eq (b.take 4) (b'.take 4) (by simp [hb, hb'])).1 h
    unfold cmpA
    cases v'' <;> simp [this]
theorem or3_neg (x y z : Int) : or3 (-x) (-y) (-z) = - or3 x y z := by
  unfold or3
  by_cases hx : x = 0
  · subst hx
    by_cases hy : y = 0
    · subst hy; simp
    · simp [hy]
  · simp [hx]
theorem cmpT_sym (a b : TRow) (ha : a.b.length = 16) (hb : b.b.length = 16) : cmpT b a = - cmpT a b := by
  unfold cmpT
  rw [cmpI_sym a.vlan b.vlan, cmpA_sym _ _ _ _ ha hb, cmpI_sym a.root b.root, or3_neg]
theorem cmpT_tr (a b c : TRow) (ha : a.b.length = 16) (hb : b.b.length = 16) (hc : c.b.length = 16) (h : cmpT a b = -1) (g : cmpT b c = -1) : cmpT a c = -1 := by
  unfold cmpT or3 at h g ⊢
  by_cases h1 : cmpI a.vlan b.vlan = 0
  · have e1 := (cmpI_eq _ _).1 h1
    rw [e1]
    rw [if_neg (by simpa using h1)] at h
    by_cases g1 : cmpI b.vlan c.vlan = 0
    · rw [if_neg (by simpa using g1)] at g ⊢
      by_cases h2 : cmpA a.v6 a.b b.v6 b.b = 0
      · rw [if_neg (by simpa using h2)] at h
        rw [(cmpA_alike _ _ c.v6 _ _ c.b ha hb h2).1]
        by_cases g2 : cmpA b.v6 b.b c.v6 c.b = 0
        · rw [if_neg (by simpa using g2)] at g ⊢
          rw [cmpI_lt] at h g ⊢
          omega
        · rw [if_pos g2] at g ⊢
          exact g
      · rw [if_pos h2] at h
        by_cases g2 : cmpA b.v6 b.b c.v6 c.b = 0
        · rw [← (cmpA_alike _ _ a.v6 _ _ a.b hb hc g2).2, if_pos h2]
          exact h
        · rw [if_pos g2] at g
          have := cmpA_tr _ _ _ _ _ _ ha hb hc h g
          rw [if_pos (by rw [this]; decide)]
          exact this
    · rw [if_pos g1] at g ⊢
      exact g
  · rw [if_pos h1] at h
    rw [cmpI_lt] at h
    by_cases g1 : cmpI b.vlan c.vlan = 0
    · have e2 := (cmpI_eq _ _).1 g1
      have : cmpI a.vlan c.vlan = -1 := (cmpI_lt _ _).2 (by omega)
      rw [if_pos (by rw [this]; decide)]
      exact this
    · rw [if_pos g1] at g
      rw [cmpI_lt] at g
      have : cmpI a.vlan c.vlan = -1 := (cmpI_lt _ _).2 (by omega)
      rw [if_pos (by rw [this]; decide)]
      exact this
/- what ref.Of makes -/
def atT (out : List TRow) (r : TRow) : Nat → Nat
  | 0 => 0
  | k + 1 => if cmpT (out.getD k rowNo) r = -1 then k + 1 else atT out r k
def twT (out : List TRow) (r : TRow) : Nat → Bool
  | 0 => false
  | k + 1 => twT out r k || decide (cmpT (out.getD k rowNo) r = 0)
def stepOf (out : List TRow) (r : TRow) : List TRow := if (oneT r && !twT out r out.length) = true then out.take (atT out r out.length) ++ r :: out.drop (atT out r out.length) else out
structure Sorted (out : List TRow) : Prop where
  ord : out.Pairwise fun a b => cmpT a b = -1
  one : ∀ r ∈ out, oneT r = true
  len : ∀ r ∈ out, r.b.length = 16
theorem atT_le (out : List TRow) (r : TRow) : ∀ k, atT out r k ≤ k
  | 0 => Nat.le_refl _
  | k + 1 => by
    unfold atT
    split
    · exact Nat.le_refl _
    · exact Nat.le_succ_of_le (atT_le out r k)
theorem atT_ge (out : List TRow) (r : TRow) : ∀ k i, i < k → atT out r k ≤ i → ¬ cmpT (out.getD i rowNo) r = -1
  | 0, _, h, _ => by omega
  | k + 1, i, h, g => by
    unfold atT at g
    split at g
    · omega
    · rename_i hk
      by_cases e : i = k
      · subst e; exact hk
      · exact atT_ge out r k i (by omega) g
theorem atT_at (out : List TRow) (r : TRow) : ∀ k, 0 < atT out r k → cmpT (out.getD (atT out r k - 1) rowNo) r = -1
  | 0, h => by simp [atT] at h
  | k + 1, h => by
    unfold atT at h ⊢
    split
    · rename_i hk; simpa using hk
    · rename_i hk
      rw [if_neg hk] at h
      exact atT_at out r k h
theorem twT_no (out : List TRow) (r : TRow) : ∀ k, twT out r k = false → ∀ i, i < k → ¬ cmpT (out.getD i rowNo) r = 0
  | 0, _, _, h => by omega
  | k + 1, h, i, hi => by
    unfold twT at h
    rw [Bool.or_eq_false_iff] at h
    by_cases e : i = k
    · subst e; simpa using h.2
    · exact twT_no out r k h.1 i (by omega)
theorem getD_get (out : List TRow) (i : Nat) (h : i < out.length) : out.getD i rowNo = out[i] := by
  rw [List.getD_eq_getElem?_getD, List.getElem?_eq_getElem h]
  rfl
theorem Sorted.step {out : List TRow} {r : TRow} (h : Sorted out) (hr : r.b.length = 16) : Sorted (stepOf out r) := by
  unfold stepOf
  split
  · rename_i hc
    simp only [Bool.and_eq_true, Bool.not_eq_true'] at hc
    obtain ⟨hone, htw⟩ := hc
    obtain ⟨k, hk⟩ : ∃ k, k = atT out r out.length := ⟨_, rfl⟩
    have hkl : k ≤ out.length := by rw [hk]; exact atT_le _ _ _
    have hat := fun h0 => atT_at out r out.length h0
    have hge := atT_ge out r out.length
    rw [← hk] at hat hge ⊢
    have hno := twT_no out r out.length htw
    have hpw := List.pairwise_iff_getElem.1 h.ord
    have hlen : ∀ (i : Nat) (hi : i < out.length), out[i].b.length = 16 := fun i hi => h.len _ (List.getElem_mem hi)
    have low : ∀ (i : Nat) (hi : i < out.length), i < k → cmpT out[i] r = -1 := by
      intro i hi hik
      have h0 := hat (by omega)
      rw [getD_get out (k - 1) (by omega)] at h0
      by_cases e : i = k - 1
      · subst e; exact h0
      · exact cmpT_tr _ _ _ (hlen i hi) (hlen (k - 1) (by omega)) hr (hpw i (k - 1) hi (by omega) (by omega)) h0
    have high : ∀ (i : Nat) (hi : i < out.length), k ≤ i → cmpT r out[i] = -1 := by
      intro i hi hik
      have h1 := hge i hi hik
      have h2 := hno i hi
      rw [getD_get out i hi] at h1 h2
      have h3 := cmpT_in out[i] r
      rw [cmpT_sym out[i] r (hlen i hi) hr]
      omega
    refine ⟨?_, fun x hx => ?_, fun x hx => ?_⟩
    · rw [List.pairwise_append, List.pairwise_cons]
      have hap := h.ord
      rw [← List.take_append_drop k out, List.pairwise_append] at hap
      refine ⟨hap.1, ⟨fun x hx => ?_, hap.2.1⟩, fun a ha b hb => ?_⟩
      · obtain ⟨i, hi, rfl⟩ := List.getElem_of_mem hx
        rw [List.getElem_drop]
        exact high (k + i) (by simp at hi; omega) (by omega)
      · rcases List.mem_cons.1 hb with rfl | hb
        · obtain ⟨i, hi, rfl⟩ := List.getElem_of_mem ha
          rw [List.getElem_take]
          simp at hi
          exact low i (by omega) (by omega)
        · exact hap.2.2 a ha b hb
    · rcases List.mem_append.1 hx with hx | hx
      · exact h.one x (List.mem_of_mem_take hx)
      · rcases List.mem_cons.1 hx with rfl | hx
        · exact hone
        · exact h.one x (List.mem_of_mem_drop hx)
    · rcases List.mem_append.1 hx with hx | hx
      · exact h.len x (List.mem_of_mem_take hx)
      · rcases List.mem_cons.1 hx with rfl | hx
        · exact hr
        · exact h.len x (List.mem_of_mem_drop hx)
  · exact h
theorem Sorted.good {rs : List TRow} (h : Sorted rs) (hl : rs.length ≤ 2048) : goodT rs = true := by
  have hpw := List.pairwise_iff_getElem.1 h.ord
  rw [goodT_yes rs fun j hj => ?_, decide_eq_true hl]
  have hr : rs[j]? = some rs[j] := List.getElem?_eq_getElem hj
  have ho := h.one _ (List.getElem_mem hj)
  cases j with
  | zero => exact stepT_0 rs _ hr ho
  | succ j => exact stepT_s rs j _ _ hr (List.getElem?_eq_getElem (by omega)) ho (hpw j (j + 1) (by omega) hj (by omega))
def ofT (l : List TRow) : List TRow := l.foldl stepOf []
theorem stepOf_len (out : List TRow) (r : TRow) : (stepOf out r).length ≤ out.length + 1 := by
  unfold stepOf
  split
  · simp; omega
  · omega
theorem ofT_sorted : ∀ (l : List TRow) (out : List TRow), Sorted out → (∀ r ∈ l, r.b.length = 16) → Sorted (l.foldl stepOf out) ∧ (l.foldl stepOf out).length ≤ out.length + l.length
  | [], out, h, _ => ⟨h, Nat.le_refl _⟩
  | r :: l, out, h, hl => by
    obtain ⟨h1, h2⟩ := ofT_sorted l (stepOf out r) (h.step (hl r List.mem_cons_self)) fun x hx => hl x (List.mem_cons_of_mem _ hx)
    refine ⟨h1, ?_⟩
    have := stepOf_len out r
    simp only [List.foldl_cons, List.length_cons]
    omega
theorem ofT_good (l : List TRow) (hl : ∀ r ∈ l, r.b.length = 16) (hn : l.length ≤ 2048) : goodT (ofT l) = true := by
  obtain ⟨h1, h2⟩ := ofT_sorted l [] ⟨List.Pairwise.nil, fun _ h => (by cases h), fun _ h => (by cases h)⟩ hl
  exact h1.good (by simp at h2; omega)
end Go.Proofs.YtegjamjognpdkaaGreat
