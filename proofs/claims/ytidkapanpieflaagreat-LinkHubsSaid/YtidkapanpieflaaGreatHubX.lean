/- The reference's hub: what lies where. -/
import Derived.Test.YtidkapanpieflaaGreatHubA
namespace Go.Proofs.YtidkapanpieflaaGreat
open Go.RowKit
set_option linter.unusedVariables false
set_option linter.unusedSimpArgs false
def goneC (gs : List (Int × Int)) : List Value := gs.flatMap fun g => [.int .i64 g.1, .int .u32 g.2]
theorem goneC_len (gs : List (Int × Int)) : (goneC gs).length = gs.length * 2 := by
  induction gs with
  | nil => rfl
  | cons g gs ih => unfold goneC at ih ⊢; simp only [List.flatMap_cons, List.length_append, List.length_cons, List.length_nil] at ih ⊢; omega
theorem goneC_app (a b : List (Int × Int)) : goneC (a ++ b) = goneC a ++ goneC b := by simp [goneC]
def ptrsC (pbo : Int → Nat) (l : List RLife) : List Value := l.map fun x => ptrV pbo x.node
structure XIn (w : World) (xb : Nat) (l : List RLife) (gs : List (Int × Int)) (lv gv : Value) (pbo : Int → Nat) (c : Clr) : Prop where
  top : Blk w xb 29 [lv, gv]
  row : Row w (fun k => c k = .inr 1) 46 1 lv l.length (ptrsC pbo l)
  rowg : Row w (fun k => c k = .inr 2) 77 2 gv gs.length (goneC gs)
  fam : Fam RLifeAt RLife.node w c pbo l
  asc : Asc RLife.node l
  f0 : c xb = .inr 0
  ge : ∀ g ∈ gs, 0 ≤ g.2 ∧ g.2 < 4294967296
def XAt (w : World) (f : Nat → Prop) (xb : Nat) (l : List RLife) (gs : List (Int × Int)) : Prop :=
  ∃ lv gv pbo c, XIn w xb l gs lv gv pbo c ∧ ∀ k, c k ≠ .inr 9 → f k
section
variable {w w' : World} {F f : Nat → Prop} {xb : Nat} {l : List RLife} {gs : List (Int × Int)} {lv gv : Value} {pbo : Int → Nat} {c : Clr}
theorem XIn.keep (h : XIn w xb l gs lv gv pbo c) (hm : Mod F w w') (hd : ∀ k, c k ≠ .inr 9 → ¬ F k) : XIn w' xb l gs lv gv pbo c :=
  ⟨h.top.keep hm (hd _ (by rw [h.f0]; decide)), h.row.keep hm fun k hk => hd k (by rw [hk]; decide), h.rowg.keep hm fun k hk => hd k (by rw [hk]; decide), h.fam.keep rlifeKept hm fun k n e => hd k (by rw [e]; simp), h.asc, h.f0, h.ge⟩
theorem XIn.recol (h : XIn w xb l gs lv gv pbo c) {c' : Clr} (hc : ∀ k, k < w.heap.size → c k ≠ .inr 9 → c' k = c k) : XIn w xb l gs lv gv pbo c' :=
  ⟨h.top, h.row.monoLt fun k hk hl => by rw [hc k hl (by rw [hk]; decide)]; exact hk, h.rowg.monoLt fun k hk hl => by rw [hc k hl (by rw [hk]; decide)]; exact hk, h.fam.recol rlifeKept fun k n hl e => by rw [hc k hl (by rw [e]; simp)]; exact e, h.asc, by rw [hc _ h.top.lt (by rw [h.f0]; decide)]; exact h.f0, h.ge⟩
theorem XAt.keep (h : XAt w f xb l gs) (hm : Mod F w w') (hd : ∀ k, f k → ¬ F k) : XAt w' f xb l gs := by
  obtain ⟨lv, gv, pbo, c, h1, h2⟩ := h
  exact ⟨lv, gv, pbo, c, h1.keep hm fun k hk => hd k (h2 k hk), h2⟩
theorem XAt.mono {f' : Nat → Prop} (h : XAt w f xb l gs) (hf : ∀ k, f k → k < w.heap.size → f' k) : XAt w f' xb l gs := by
  obtain ⟨lv, gv, pbo, c, h1, h2⟩ := h
  refine ⟨lv, gv, pbo, fun k => if k < w.heap.size then c k else .inr 9, h1.recol fun k hk _ => if_pos hk, fun k hk => ?_⟩
  by_cases hl : k < w.heap.size
  · exact hf k (h2 k (by simpa [hl] using hk)) hl
  · simp [hl] at hk
theorem XAt.asc (h : XAt w f xb l gs) : Asc RLife.node l := by
  obtain ⟨lv, gv, pbo, c, h1, h2⟩ := h
  exact h1.asc
theorem XIn.grow (h : XIn w xb l gs lv gv pbo c) (hm : Mod F w w') (hd : ∀ k, (∃ n, c k = .inl n) ∨ c k = .inr 0 ∨ c k = .inr 1 ∨ c k = .inr 2 → ¬ F k) (t : Int ⊕ Nat) : XIn w' xb l gs lv gv pbo (dyed c w t) :=
  ⟨h.top.keep hm (hd _ (.inr (.inl h.f0))), (h.row.monoLt (f' := fun k => c k = .inr 1 ∧ k < w.heap.size) (fun k hk hl => ⟨hk, hl⟩) |>.keep hm fun k hk => hd k (.inr (.inr (.inl hk.1)))).monoLt fun k hk _ => by rw [dyed_old hk.2]; exact hk.1,
    (h.rowg.monoLt (f' := fun k => c k = .inr 2 ∧ k < w.heap.size) (fun k hk hl => ⟨hk, hl⟩) |>.keep hm fun k hk => hd k (.inr (.inr (.inr hk.1)))).monoLt fun k hk _ => by rw [dyed_old hk.2]; exact hk.1, h.fam.grow rlifeKept hm (fun k n e => hd k (.inl ⟨n, e⟩)) t, h.asc, by rw [dyed_old h.top.lt]; exact h.f0, h.ge⟩
theorem ptrs_put {x y : RLife} (ha : Asc RLife.node l) (hx : hfind RLife.node l y.node = some x) : (hput RLife.node l y).length = l.length ∧ ptrsC pbo (hput RLife.node l y) = ptrsC pbo l := by
  obtain ⟨h1, h2⟩ := hfind_mem hx
  obtain ⟨s, t, rfl⟩ := List.append_of_mem h1
  rw [hput_mid ha h2.symm]
  unfold ptrsC
  simp [h2]
theorem XIn.life (h : XIn w xb l gs lv gv pbo c) {n : Int} {L : RLife} (hL : hfind RLife.node l n = some L) : L.node = n ∧ RLifeAt w (pbo n) (fun k => c k = .inl n) L := by
  obtain ⟨h1, rfl⟩ := hfind_mem hL
  exact ⟨rfl, h.fam L h1⟩
theorem XIn.set (h : XIn w xb l gs lv gv pbo c) {n : Int} {L L' : RLife} (hL : hfind RLife.node l n = some L) (hn : L'.node = n) (hx : RLifeAt w' (pbo n) (fun k => c k = .inl n ∨ w.heap.size ≤ k) L') (hm : Mod (fun k => c k = .inl n) w w') :
    XIn w' xb (hput RLife.node l L') gs lv gv pbo (dyed c w (.inl n)) := by
  subst hn
  obtain ⟨e1, e2⟩ := ptrs_put (pbo := pbo) h.asc hL
  have h1 := h.fam.put rlifeKept hm (x := L') (vb := pbo L'.node) (fun k n e hne e2 => by rw [e] at e2; cases e2; exact hne rfl) hx
  have e : (fun n => if n = L'.node then pbo L'.node else pbo n) = pbo := by
    funext n
    by_cases e : n = L'.node
    · rw [if_pos e, e]
    · rw [if_neg e]
  rw [e] at h1
  exact ⟨h.top.keep hm (fun e => by rw [h.f0] at e; cases e), by rw [e1, e2]; exact h.row.dyeKeep hm (fun k e1 e2 => by rw [e1] at e2; cases e2) _, h.rowg.dyeKeep hm (fun k e1 e2 => by rw [e1] at e2; cases e2) _, h1, asc_hput h.asc L', by rw [dyed_old h.top.lt]; exact h.f0, h.ge⟩
end
end Go.Proofs.YtidkapanpieflaaGreat
