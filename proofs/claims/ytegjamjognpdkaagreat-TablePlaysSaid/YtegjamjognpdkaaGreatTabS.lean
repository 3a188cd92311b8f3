/- Tables: what lies where: versions of rows, the map of versions. -/
import Derived.Test.YtegjamjognpdkaaGreatDo
import Derived.Test.YtegjamjognpdkaaGreatCutC
namespace Go.Proofs.YtegjamjognpdkaaGreat
open Go.RowKit
set_option linter.unusedVariables false
set_option linter.unusedSimpArgs false
theorem goodT_le {rs : List TRow} (h : goodT rs = true) : rs.length ≤ 2048 := by
  unfold goodT at h
  rw [Bool.and_eq_true] at h
  exact of_decide_eq_true h.2
theorem goodT_one {rs : List TRow} (h : goodT rs = true) {r : TRow} (hr : r ∈ rs) : oneT r = true := by
  unfold goodT at h
  rw [Bool.and_eq_true] at h
  obtain ⟨j, hj, rfl⟩ := List.getElem_of_mem hr
  have := h.1
  unfold allTo at this
  rw [List.all_eq_true] at this
  have := this j (List.mem_range.2 hj)
  unfold stepT at this
  rw [Bool.and_eq_true, getD_get rs j hj] at this
  exact this.1
theorem oneT_next {r : TRow} (h : oneT r = true) : 1 ≤ r.next.length ∧ r.next.length ≤ 255 := by
  unfold oneT at h
  simp only [Bool.and_eq_true] at h
  exact of_decide_eq_true h.2.2
theorem goodT_next {rs : List TRow} (h : goodT rs = true) {r : TRow} (hr : r ∈ rs) : r.next.length ≤ 255 := (oneT_next (goodT_one h hr)).2
/-- a version's index: not yet filled, or filled -/
def IdxAt (w : World) (g : Nat → Prop) (vb : Nat) (rv : Value) (rs : List TRow) : Prop :=
  Blk w vb 80 (verC rv 0 0 (.map none)) ∨ ∃ m, g m ∧ m ≠ vb ∧ Blk w vb 80 (verC rv 1 0 (.map (some m))) ∧ SpM w m rs
structure VerIn (w : World) (g : Nat → Prop) (vb : Nat) (rs : List TRow) (rv : Value) (sv : Nat → Value) : Prop where
  rows : RowsOwn w (fun k => g k ∧ k ≠ vb) rv rs sv
  idx : IdxAt w g vb rv rs
  own : g vb
  good : goodT rs = true
def VerAt (w : World) (g : Nat → Prop) (vb : Nat) (rs : List TRow) : Prop := ∃ rv sv, VerIn w g vb rs rv sv
theorem IdxAt.keep {w w' : World} {F g : Nat → Prop} {vb : Nat} {rv : Value} {rs : List TRow} (h : IdxAt w g vb rv rs) (ho : g vb) (hm : Mod F w w') (hd : ∀ k, g k → ¬ F k) : IdxAt w' g vb rv rs := by
  rcases h with h | ⟨m, h1, h2, h3, h4⟩
  · exact .inl (h.keep hm (hd _ ho))
  · exact .inr ⟨m, h1, h2, h3.keep hm (hd _ ho), h4.keep hm (hd _ h1)⟩
theorem VerIn.keep {w w' : World} {F g : Nat → Prop} {vb : Nat} {rs : List TRow} {rv : Value} {sv : Nat → Value} (h : VerIn w g vb rs rv sv) (hm : Mod F w w') (hd : ∀ k, g k → ¬ F k) : VerIn w' g vb rs rv sv :=
  ⟨h.rows.keep hm fun k hk => hd k hk.1, h.idx.keep h.own hm hd, h.own, h.good⟩
theorem IdxAt.lt {w : World} {g : Nat → Prop} {vb : Nat} {rv : Value} {rs : List TRow} (h : IdxAt w g vb rv rs) : vb < w.heap.size := by
  rcases h with h | ⟨m, h1, h2, h3, h4⟩
  · exact h.lt
  · exact h3.lt
theorem RowsOwn.mono {w : World} {f f' : Nat → Prop} {v : Value} {rs : List TRow} {sv : Nat → Value} (h : RowsOwn w f v rs sv) (hf : ∀ k, f k → f' k) : RowsOwn w f' v rs sv := ⟨h.row.mono hf, h.ok, fun i r hr => (h.next i r hr).mono hf⟩
theorem IdxAt.mono {w : World} {g g' : Nat → Prop} {vb : Nat} {rv : Value} {rs : List TRow} (h : IdxAt w g vb rv rs) (hg : ∀ k, g k → k < w.heap.size → g' k) : IdxAt w g' vb rv rs := by
  rcases h with h | ⟨m, h1, h2, h3, h4⟩
  · exact .inl h
  · exact .inr ⟨m, hg m h1 h4.lt, h2, h3, h4⟩
theorem VerIn.mono {w : World} {g g' : Nat → Prop} {vb : Nat} {rs : List TRow} {rv : Value} {sv : Nat → Value} (h : VerIn w g vb rs rv sv) (hg : ∀ k, g k → k < w.heap.size → g' k) : VerIn w g' vb rs rv sv :=
  ⟨h.rows.under.mono fun k hk => ⟨hg k hk.1.1 hk.2, hk.1.2⟩, h.idx.mono hg, hg _ h.own h.idx.lt, h.good⟩
theorem VerAt.keep {w w' : World} {F g : Nat → Prop} {vb : Nat} {rs : List TRow} (h : VerAt w g vb rs) (hm : Mod F w w') (hd : ∀ k, g k → ¬ F k) : VerAt w' g vb rs := by
  obtain ⟨rv, sv, h⟩ := h
  exact ⟨rv, sv, h.keep hm hd⟩
theorem VerAt.mono {w : World} {g g' : Nat → Prop} {vb : Nat} {rs : List TRow} (h : VerAt w g vb rs) (hg : ∀ k, g k → k < w.heap.size → g' k) : VerAt w g' vb rs := by
  obtain ⟨rv, sv, h⟩ := h
  exact ⟨rv, sv, h.mono hg⟩
theorem VerAt.own {w : World} {g : Nat → Prop} {vb : Nat} {rs : List TRow} (h : VerAt w g vb rs) : g vb := by
  obtain ⟨rv, sv, h⟩ := h
  exact h.own
theorem VerAt.good {w : World} {g : Nat → Prop} {vb : Nat} {rs : List TRow} (h : VerAt w g vb rs) : goodT rs = true := by
  obtain ⟨rv, sv, h⟩ := h
  exact h.good
theorem VerAt.lt {w : World} {g : Nat → Prop} {vb : Nat} {rs : List TRow} (h : VerAt w g vb rs) : vb < w.heap.size := by
  obtain ⟨rv, sv, h⟩ := h
  exact h.idx.lt
/-- what is kept of a version -/
def hasV (vs : List (Int × List TRow)) (v : Int) : Option (List TRow) := (vs.find? fun p => p.1 == v).map (·.2)
theorem hasV_mem {vs : List (Int × List TRow)} {v : Int} {rs : List TRow} (h : hasV vs v = some rs) : (v, rs) ∈ vs := by
  unfold hasV at h
  rw [Option.map_eq_some_iff] at h
  obtain ⟨p, hp, rfl⟩ := h
  have h1 := List.mem_of_find?_eq_some hp
  have h2 := List.find?_some hp
  simp only [beq_iff_eq] at h2
  rw [← h2]
  exact h1
def verPtr (vbo : Int → Nat) (n : Int) : Value := .pointer (some ⟨vbo n, 0, none⟩)
def verMap (vs : List (Int × List TRow)) (vbo : Int → Nat) : List (Int × Value) := vs.map fun p => (p.1, verPtr vbo p.1)
theorem mget_vs (vbo : Int → Nat) (v : Int) : ∀ vs : List (Int × List TRow), mget (verMap vs vbo) v = (hasV vs v).map fun _ => verPtr vbo v
  | [] => rfl
  | p :: vs => by
    have ih := mget_vs vbo v vs
    unfold mget verMap hasV at *
    rw [List.map_cons, List.find?_cons, List.find?_cons]
    by_cases h : p.1 = v
    · simp [h]
    · have hb : (p.1 == v) = false := by simp [h]
      simp only [hb]
      exact ih
structure TabIn (w : World) (f : Nat → Prop) (tb : Nat) (now : Int) (vs : List (Int × List TRow)) (mb : Nat) (vbo : Int → Nat) (g : Int → Nat → Prop) : Prop where
  tab : Blk w tb 65 [.map (some mb), .int .u64 now]
  map : Mp w mb .u32 (verMap vs vbo)
  ne : mb ≠ tb
  ftb : f tb
  fmb : f mb
  ver : ∀ p ∈ vs, VerAt w (g p.1) (vbo p.1) p.2
  sub : ∀ n k, g n k → f k ∧ k ≠ tb ∧ k ≠ mb
  dis : ∀ a b k, g a k → g b k → a = b
  keys : (vs.map (·.1)).Nodup
def TabAt (w : World) (f : Nat → Prop) (tb : Nat) (now : Int) (vs : List (Int × List TRow)) : Prop := ∃ mb vbo g, TabIn w f tb now vs mb vbo g
theorem TabIn.keep {w w' : World} {F f : Nat → Prop} {tb mb : Nat} {now : Int} {vs : List (Int × List TRow)} {vbo : Int → Nat} {g : Int → Nat → Prop} (h : TabIn w f tb now vs mb vbo g) (hm : Mod F w w') (hd : ∀ k, f k → ¬ F k) : TabIn w' f tb now vs mb vbo g :=
  ⟨h.tab.keep hm (hd _ h.ftb), h.map.keep hm (hd _ h.fmb), h.ne, h.ftb, h.fmb, fun p hp => (h.ver p hp).keep hm fun k hk => hd k (h.sub _ _ hk).1, h.sub, h.dis, h.keys⟩
theorem TabAt.keep {w w' : World} {F f : Nat → Prop} {tb : Nat} {now : Int} {vs : List (Int × List TRow)} (h : TabAt w f tb now vs) (hm : Mod F w w') (hd : ∀ k, f k → ¬ F k) : TabAt w' f tb now vs := by
  obtain ⟨mb, vbo, g, h⟩ := h
  exact ⟨mb, vbo, g, h.keep hm hd⟩
theorem TabAt.mono {w : World} {f f' : Nat → Prop} {tb : Nat} {now : Int} {vs : List (Int × List TRow)} (h : TabAt w f tb now vs) (hf : ∀ k, f k → k < w.heap.size → f' k) : TabAt w f' tb now vs := by
  obtain ⟨mb, vbo, g, h⟩ := h
  exact ⟨mb, vbo, fun n k => g n k ∧ k < w.heap.size, h.tab, h.map, h.ne, hf _ h.ftb h.tab.lt, hf _ h.fmb h.map.lt, fun p hp => (h.ver p hp).mono fun k hk hl => ⟨hk, hl⟩, fun n k hk => ⟨hf k (h.sub n k hk.1).1 hk.2, (h.sub n k hk.1).2⟩, fun a b k ha hb => h.dis a b k ha.1 hb.1, h.keys⟩
/-- one version has changed in itself -/
theorem TabIn.find {w w' : World} {f : Nat → Prop} {tb mb : Nat} {now n : Int} {rs : List TRow} {vs : List (Int × List TRow)} {vbo : Int → Nat} {g : Int → Nat → Prop} (h : TabIn w f tb now vs mb vbo g) (hn : (n, rs) ∈ vs) (hv : VerAt w' (fun k => g n k ∨ w.heap.size ≤ k) (vbo n) rs) (hm : Mod (fun k => k = vbo n) w w') :
    TabAt w' (fun k => f k ∨ w.heap.size ≤ k) tb now vs := by
  have ho := (h.ver _ hn).own
  have hl := h.tab.lt
  have hl' := h.map.lt
  refine ⟨mb, vbo, fun a k => if a = n then (g n k ∨ w.heap.size ≤ k) ∧ (k ≠ tb ∧ k ≠ mb) else g a k ∧ k < w.heap.size, h.tab.keep hm (fun e => (h.sub _ _ ho).2.1 e.symm), h.map.keep hm (fun e => (h.sub _ _ ho).2.2 e.symm), h.ne, .inl h.ftb, .inl h.fmb, ?_, ?_, ?_, h.keys⟩
  · intro p hp
    by_cases hpn : p.1 = n
    · have hpe : p = (n, rs) := by
        obtain ⟨a, ra⟩ := p
        have hpn : a = n := hpn
        subst hpn
        obtain ⟨i, hi, e1⟩ := List.getElem_of_mem hp
        obtain ⟨j, hj, e2⟩ := List.getElem_of_mem hn
        have hij : i = j := by
          have := (List.getElem_inj (xs := vs.map fun p => p.1) (i := i) (j := j) (h₀ := by simpa using hi) (h₁ := by simpa using hj) h.keys).1 (by simp [e1, e2])
          exact this
        subst hij
        rw [← e1, ← e2]
      rw [hpe]
      simp only [if_pos]
      exact hv.mono fun k hk _ => ⟨hk, by
        rcases hk with hk | hk
        · exact (h.sub _ _ hk).2
        · exact ⟨by omega, by omega⟩⟩
    · simp only [if_neg hpn]
      exact ((h.ver p hp).mono (g' := fun k => g p.1 k ∧ k < w.heap.size) fun k hk hl => ⟨hk, hl⟩).keep hm fun k hk e => hpn (h.dis _ _ _ hk.1 (by rw [e]; exact ho))
  · intro a k hk
    by_cases ha : a = n
    · subst ha
      simp only [if_pos] at hk
      exact ⟨hk.1.imp (fun x => (h.sub _ _ x).1) fun x => x, hk.2⟩
    · simp only [if_neg ha] at hk
      exact ⟨.inl (h.sub _ _ hk.1).1, (h.sub _ _ hk.1).2⟩
  · intro a b k ha hb
    by_cases e1 : a = n
    · by_cases e2 : b = n
      · rw [e1, e2]
      · subst e1
        simp only [if_pos] at ha
        simp only [if_neg e2] at hb
        rcases ha.1 with x | x
        · exact h.dis _ _ _ x hb.1
        · omega
    · by_cases e2 : b = n
      · subst e2
        simp only [if_pos] at hb
        simp only [if_neg e1] at ha
        rcases hb.1 with x | x
        · exact h.dis _ _ _ ha.1 x
        · omega
      · simp only [if_neg e1] at ha
        simp only [if_neg e2] at hb
        exact h.dis _ _ _ ha.1 hb.1
/-- a new version -/
theorem TabIn.add {w w' w'' : World} {f : Nat → Prop} {tb mb vb : Nat} {now n : Int} {rs : List TRow} {vs : List (Int × List TRow)} {vbo : Int → Nat} {g : Int → Nat → Prop} (h : TabIn w f tb now vs mb vbo g) (hn : hasV vs n = none) (hm : Mod (fun _ => False) w w') (hv : VerAt w' (fun k => w.heap.size ≤ k) vb rs)
    (hp : Mp w'' mb .u32 (verMap vs vbo ++ [(n, .pointer (some ⟨vb, 0, none⟩))])) (hm2 : Mod (fun k => k = mb) w' w'') : TabAt w'' (fun k => f k ∨ w.heap.size ≤ k) tb now (vs ++ [(n, rs)]) := by
  have hl := h.tab.lt
  have hl' := h.map.lt
  have hno : ∀ p ∈ vs, ¬ p.1 = n := by
    intro p hp e
    unfold hasV at hn
    rw [Option.map_eq_none_iff, List.find?_eq_none] at hn
    exact hn p hp (by simp [e])
  have hM : Mod (fun k => k = mb) w w'' := (hm.mono fun x hx => hx.elim).trans hm2 fun x hx => .inl hx
  refine ⟨mb, fun a => if a = n then vb else vbo a, fun a k => if a = n then w.heap.size ≤ k else g a k ∧ k < w.heap.size, h.tab.keep hM (fun e => h.ne e.symm), ?_, h.ne, .inl h.ftb, .inl h.fmb, ?_, ?_, ?_, ?_⟩
  · have e : verMap (vs ++ [(n, rs)]) (fun a => if a = n then vb else vbo a) = verMap vs vbo ++ [(n, .pointer (some ⟨vb, 0, none⟩))] := by
      unfold verMap verPtr
      simp only [List.map_append, List.map_cons, List.map_nil, if_pos]
      congr 1
      refine List.map_congr_left fun p hp => ?_
      rw [if_neg (hno p hp)]
    rw [e]
    exact hp
  · intro p hp
    rw [List.mem_append, List.mem_singleton] at hp
    rcases hp with hp | rfl
    · simp only [if_neg (hno p hp)]
      exact (((h.ver p hp).mono (g' := fun k => g p.1 k ∧ k < w.heap.size) fun k hk hl => ⟨hk, hl⟩).keep hM fun k hk e => (h.sub _ _ hk.1).2.2 e)
    · simp only [if_pos]
      exact hv.keep hm2 fun k hk e => by have hk : w.heap.size ≤ k := hk; omega
  · intro a k hk
    by_cases ha : a = n
    · subst ha
      simp only [if_pos] at hk
      exact ⟨.inr hk, by omega, by omega⟩
    · simp only [if_neg ha] at hk
      exact ⟨.inl (h.sub _ _ hk.1).1, (h.sub _ _ hk.1).2⟩
  · intro a b k ha hb
    by_cases e1 : a = n
    · by_cases e2 : b = n
      · rw [e1, e2]
      · subst e1
        simp only [if_pos] at ha
        simp only [if_neg e2] at hb
        omega
    · by_cases e2 : b = n
      · subst e2
        simp only [if_pos] at hb
        simp only [if_neg e1] at ha
        omega
      · simp only [if_neg e1] at ha
        simp only [if_neg e2] at hb
        exact h.dis _ _ _ ha.1 hb.1
  · rw [List.map_append, List.nodup_append]
    refine ⟨h.keys, by simp, ?_⟩
    intro a ha b hb e
    simp at hb
    subst hb
    subst e
    obtain ⟨p, hp, he⟩ := List.mem_map.1 ha
    exact hno p hp he
theorem TabAt.new {w : World} {tb mb : Nat} (h : Blk w tb 65 [.map (some mb), .int .u64 0]) (hm : Mp w mb .u32 []) (hne : mb ≠ tb) (f : Nat → Prop) (ht : f tb) (hb : f mb) : TabAt w f tb 0 [] :=
  ⟨mb, fun _ => 0, fun _ _ => False, h, hm, hne, ht, hb, fun p hp => (by cases hp), fun n k hk => hk.elim, fun a b k hk => hk.elim, List.nodup_nil⟩
end Go.Proofs.YtegjamjognpdkaaGreat
