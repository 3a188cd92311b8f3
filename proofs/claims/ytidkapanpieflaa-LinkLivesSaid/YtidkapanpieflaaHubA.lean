/- Hubs (package link): what lies where. -/
import Derived.Test.YtidkapanpieflaaHubF
import Derived.Test.YtidkapanpieflaaLife4
namespace Go.Proofs.Ytidkapanpieflaa
open Go.RowKit
set_option linter.unusedVariables false
set_option linter.unusedSimpArgs false
def ptrV (vbo : Int → Nat) (n : Int) : Value := .pointer (some ⟨vbo n, 0, none⟩)
def KV (vbo : Int → Nat) (l : List Life) (k : Int) : Option Value := (hfind Life.node l k).map fun _ => ptrV vbo k
def GV (G : Int → Option Int) (k : Int) : Option Value := (G k).map (Value.int .u32)
structure HubIn (w : World) (hb : Nat) (l : List Life) (G : Int → Option Int) (km gm : Nat) (vbo : Int → Nat) (c : Clr) : Prop where
  top : Blk w hb 115 [.map (some km), .map (some gm)]
  kn : KM w km (KV vbo l)
  gn : KM w gm (GV G)
  fam : Fam LifeAt Life.node w c vbo l
  asc : Asc Life.node l
  f0 : c hb = .inr 0
  f1 : c km = .inr 1
  f2 : c gm = .inr 2
  ge : ∀ k e, G k = some e → 0 ≤ e ∧ e < 4294967296
  rg : ∀ L ∈ l, -9223372036854775808 ≤ L.node ∧ L.node < 9223372036854775808
def HubAt (w : World) (f : Nat → Prop) (hb : Nat) (l : List Life) (G : Int → Option Int) : Prop :=
  ∃ km gm vbo c, HubIn w hb l G km gm vbo c ∧ ∀ k, c k ≠ .inr 9 → f k
section
variable {w w' : World} {F f : Nat → Prop} {hb km gm : Nat} {l : List Life} {G : Int → Option Int} {vbo : Int → Nat} {c : Clr}
theorem HubIn.keep (h : HubIn w hb l G km gm vbo c) (hm : Mod F w w') (hd : ∀ k, c k ≠ .inr 9 → ¬ F k) : HubIn w' hb l G km gm vbo c :=
  ⟨h.top.keep hm (hd _ (by rw [h.f0]; decide)), h.kn.keep hm (hd _ (by rw [h.f1]; decide)), h.gn.keep hm (hd _ (by rw [h.f2]; decide)), h.fam.keep lifeKept hm fun k n e => hd k (by rw [e]; simp), h.asc, h.f0, h.f1, h.f2, h.ge, h.rg⟩
theorem HubIn.recol (h : HubIn w hb l G km gm vbo c) {c' : Clr} (hc : ∀ k, k < w.heap.size → c k ≠ .inr 9 → c' k = c k) : HubIn w hb l G km gm vbo c' :=
  ⟨h.top, h.kn, h.gn, h.fam.recol lifeKept fun k n hl e => by rw [hc k hl (by rw [e]; simp)]; exact e, h.asc, by rw [hc _ h.top.lt (by rw [h.f0]; decide)]; exact h.f0, by rw [hc _ h.kn.lt (by rw [h.f1]; decide)]; exact h.f1, by rw [hc _ h.gn.lt (by rw [h.f2]; decide)]; exact h.f2, h.ge, h.rg⟩
theorem HubAt.keep (h : HubAt w f hb l G) (hm : Mod F w w') (hd : ∀ k, f k → ¬ F k) : HubAt w' f hb l G := by
  obtain ⟨km, gm, vbo, c, h1, h2⟩ := h
  exact ⟨km, gm, vbo, c, h1.keep hm fun k hk => hd k (h2 k hk), h2⟩
theorem HubAt.mono {f' : Nat → Prop} (h : HubAt w f hb l G) (hf : ∀ k, f k → k < w.heap.size → f' k) : HubAt w f' hb l G := by
  obtain ⟨km, gm, vbo, c, h1, h2⟩ := h
  refine ⟨km, gm, vbo, fun k => if k < w.heap.size then c k else .inr 9, h1.recol fun k hk _ => if_pos hk, fun k hk => ?_⟩
  by_cases hl : k < w.heap.size
  · exact hf k (h2 k (by simpa [hl] using hk)) hl
  · simp [hl] at hk
theorem HubAt.asc (h : HubAt w f hb l G) : Asc Life.node l := by
  obtain ⟨km, gm, vbo, c, h1, h2⟩ := h
  exact h1.asc
/-- nothing of the hub has changed; new blocks get a colour -/
theorem HubIn.grow (h : HubIn w hb l G km gm vbo c) (hm : Mod F w w') (hd : ∀ k, (∃ n, c k = .inl n) ∨ c k = .inr 0 ∨ c k = .inr 1 ∨ c k = .inr 2 → ¬ F k) (t : Int ⊕ Nat) : HubIn w' hb l G km gm vbo (dyed c w t) :=
  ⟨h.top.keep hm (hd _ (.inr (.inl h.f0))), h.kn.keep hm (hd _ (.inr (.inr (.inl h.f1)))), h.gn.keep hm (hd _ (.inr (.inr (.inr h.f2)))), h.fam.grow lifeKept hm (fun k n e => hd k (.inl ⟨n, e⟩)) t, h.asc, by rw [dyed_old h.top.lt]; exact h.f0, by rw [dyed_old h.kn.lt]; exact h.f1, by rw [dyed_old h.gn.lt]; exact h.f2, h.ge, h.rg⟩
/-- a life has come, or changed -/
theorem HubIn.put (h : HubIn w hb l G km gm vbo c) (hm : Mod F w w') {x : Life} {vb : Nat} (hrg : -9223372036854775808 ≤ x.node ∧ x.node < 9223372036854775808) (hF : ∀ k, F k → c k = .inl x.node ∨ c k = .inr 1) (hx : LifeAt w' vb (fun k => c k = .inl x.node ∨ w.heap.size ≤ k) x)
    (hk : KM w' km fun n => if n = x.node then some (.pointer (some ⟨vb, 0, none⟩)) else KV vbo l n) : HubIn w' hb (hput Life.node l x) G km gm (fun n => if n = x.node then vb else vbo n) (dyed c w (.inl x.node)) :=
  ⟨h.top.keep hm (fun e => by rcases hF _ e with e | e <;> rw [h.f0] at e <;> cases e), hk.to (fun n => by
    unfold KV ptrV
    rw [hfind_hput h.asc]
    by_cases e : n = x.node
    · simp only [if_pos e]; rfl
    · simp only [if_neg e]), h.gn.keep hm (fun e => by rcases hF _ e with e | e <;> rw [h.f2] at e <;> cases e), h.fam.put lifeKept hm (fun k n e hne hFk => by
      rcases hF _ hFk with e2 | e2
      · rw [e] at e2; cases e2; exact hne rfl
      · rw [e] at e2; cases e2) hx, asc_hput h.asc x, by rw [dyed_old h.top.lt]; exact h.f0, by rw [dyed_old h.kn.lt]; exact h.f1, by rw [dyed_old h.gn.lt]; exact h.f2, h.ge, fun L hL => by
    rcases mem_hput.1 hL with rfl | hL
    · exact hrg
    · exact h.rg L hL.1⟩
theorem HubIn.life (h : HubIn w hb l G km gm vbo c) {n : Int} {L : Life} (hL : hfind Life.node l n = some L) : L.node = n ∧ LifeAt w (vbo n) (fun k => c k = .inl n) L := by
  obtain ⟨h1, rfl⟩ := hfind_mem hL
  exact ⟨rfl, h.fam L h1⟩
/-- a life that is known has changed -/
theorem HubIn.set (h : HubIn w hb l G km gm vbo c) {n : Int} {L L' : Life} (hL : hfind Life.node l n = some L) (hn : L'.node = n) (hx : LifeAt w' (vbo n) (fun k => c k = .inl n ∨ w.heap.size ≤ k) L') (hm : Mod (fun k => c k = .inl n) w w') :
    HubIn w' hb (hput Life.node l L') G km gm vbo (dyed c w (.inl n)) := by
  subst hn
  have h1 := h.put hm (x := L') (vb := vbo L'.node) (by have := hfind_mem hL; rw [← this.2]; exact h.rg L this.1) (fun k e => .inl e) hx ((h.kn.keep hm (fun e => by rw [h.f1] at e; cases e)).to fun n => by
    by_cases e : n = L'.node
    · subst e
      rw [if_pos rfl]
      unfold KV ptrV
      rw [hL]; rfl
    · rw [if_neg e])
  have e : (fun n => if n = L'.node then vbo L'.node else vbo n) = vbo := by
    funext n
    by_cases e : n = L'.node
    · rw [if_pos e, e]
    · rw [if_neg e]
  rwa [e] at h1
/-- a node is dropped -/
theorem HubIn.drop (h : HubIn w hb l G km gm vbo c) {n e : Int} {w1 : World} (he : 0 ≤ e ∧ e < 4294967296) (hg : KM w1 gm fun k => if k = n then some (.int .u32 e) else GV G k) (hm : Mod (fun k => k = gm) w w1)
    (hk : KM w' km fun k => if k = n then none else KV vbo l k) (hm2 : Mod (fun k => k = km) w1 w') : HubIn w' hb (hdel Life.node l n) (fun k => if k = n then some e else G k) km gm vbo c ∧ Mod (fun k => c k = .inr 1 ∨ c k = .inr 2) w w' := by
  have hM : Mod (fun k => c k = .inr 1 ∨ c k = .inr 2) w w' := (hm.mono fun k hk => .inl (by rw [hk]; exact .inr h.f2)).trans hm2 fun k hk => .inl (by rw [hk]; exact .inl h.f1)
  refine ⟨⟨h.top.keep hM (fun e => by rw [h.f0] at e; rcases e with e | e <;> cases e), hk.to fun k => ?_, (hg.keep hm2 (fun e => by have h1 := h.f1; have h2 := h.f2; rw [e, h1] at h2; cases h2)).to fun k => ?_, (h.fam.keep lifeKept hM (fun k m e1 e => by rw [e1] at e; rcases e with e | e <;> cases e)).del n, asc_hdel h.asc n, h.f0, h.f1, h.f2, fun k x hx => ?_, fun L hL => h.rg L (mem_hdel.1 hL).1⟩, hM⟩
  · unfold KV
    rw [hfind_hdel h.asc]
    by_cases e : k = n
    · rw [if_pos e, if_pos e]; rfl
    · rw [if_neg e, if_neg e]
  · unfold GV
    by_cases e : k = n
    · simp only [if_pos e]; rfl
    · simp only [if_neg e]
  · by_cases e1 : k = n
    · rw [if_pos e1] at hx; cases hx; exact he
    · rw [if_neg e1] at hx; exact h.ge k x hx
end
end Go.Proofs.Ytidkapanpieflaa
