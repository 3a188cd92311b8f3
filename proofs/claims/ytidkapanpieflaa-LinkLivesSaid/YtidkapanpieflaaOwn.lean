/- Who owns which block: a colour for each thing. -/
import Derived.Test.YtidkapanpieflaaSame
import Derived.Test.YtidkapanpieflaaRefRT
import Derived.Test.YtidkapanpieflaaRefS2
import Derived.Test.YtidkapanpieflaaSnd2
namespace Go.Proofs.Ytidkapanpieflaa
open Go.RowKit
set_option linter.unusedVariables false
structure Col (w0 w : World) (c : Nat → Nat) : Prop where
  old : ∀ k, k < w0.heap.size → c k = 0
  new : ∀ k, w.heap.size ≤ k → c k = 0
  mod : Mod (fun _ => False) w0 w
def paint (c : Nat → Nat) (w w' : World) (i : Nat) : Nat → Nat := fun k => if w.heap.size ≤ k ∧ k < w'.heap.size then i else c k
theorem Col.start (w : World) : Col w w (fun _ => 0) := ⟨fun _ _ => rfl, fun _ _ => rfl, Mod.refl _ _⟩
theorem Col.drew {w0 w : World} {c : Nat → Nat} (h : Col w0 w c) : Col w0 w.drew c := ⟨h.old, h.new, h.mod.drew⟩
theorem Col.step {w0 w w' : World} {c : Nat → Nat} {j : Nat} (h : Col w0 w c) (hm : Mod (fun k => c k = j) w w') (hj : j ≠ 0) (t : Nat) : Col w0 w' (paint c w w' t) := by
  have hs := h.mod.size
  refine ⟨fun k hk => ?_, fun k hk => ?_, (h.mod.trans hm fun k hk => .inr ?_)⟩
  · unfold paint; rw [if_neg (by omega)]; exact h.old k hk
  · have := hm.size
    unfold paint; rw [if_neg (by omega)]; exact h.new k (by omega)
  · rcases Nat.lt_or_ge k w0.heap.size with h1 | h1
    · exact absurd hk (by rw [h.old k h1]; exact fun e => hj e.symm)
    · exact h1
theorem Col.still {w0 w w' : World} {c : Nat → Nat} (h : Col w0 w c) (hm : Mod (fun _ => False) w w') (t : Nat) : Col w0 w' (paint c w w' t) := h.step (j := 1) (hm.mono fun _ f => f.elim) (by decide) t
theorem Col.lt {w0 w : World} {c : Nat → Nat} (h : Col w0 w c) {i : Nat} (hi : i ≠ 0) : ∀ k, c k = i → k < w.heap.size := fun k hk => by
  rcases Nat.lt_or_ge k w.heap.size with h1 | h1
  · exact h1
  · exact absurd hk (by rw [h.new k h1]; exact fun e => hi e.symm)
theorem paint_away {w0 w w' : World} {c : Nat → Nat} {i : Nat} (h : Col w0 w c) (hi : i ≠ 0) (t : Nat) : ∀ k, c k = i → k < w'.heap.size → paint c w w' t k = i := fun k hk _ => by
  have := h.lt hi k hk
  unfold paint; rw [if_neg (by omega)]; exact hk
theorem paint_born (c : Nat → Nat) (w w' : World) (i : Nat) : ∀ k, w.heap.size ≤ k → k < w'.heap.size → paint c w w' i k = i := fun k h1 h2 => by unfold paint; rw [if_pos ⟨h1, h2⟩]
theorem paint_mine {w0 w w' : World} {c : Nat → Nat} {i : Nat} (h : Col w0 w c) (hi : i ≠ 0) : ∀ k, c k = i ∨ w.heap.size ≤ k → k < w'.heap.size → paint c w w' i k = i := fun k hk h2 => hk.elim (fun e => paint_away h hi i k e h2) fun e => paint_born c w w' i k e h2
theorem mod_away {c : Nat → Nat} {i j : Nat} (hij : i ≠ j) : ∀ k, c k = i → ¬ c k = j := fun k h1 h2 => hij (h1.symm.trans h2)
theorem SndAt.mono {w : World} {f f' : Nat → Prop} {p : Nat} {s : Snd} (h : SndAt w p f s) (hf : ∀ k, f k → k < w.heap.size → f' k) : SndAt w p f' s := by
  obtain ⟨h1, h2, v, h3, h4⟩ := h
  exact ⟨h1, hf p h2 (lt_of_block h3), v, h3, ⟨h4.1, fun g hg => hf g (h4.2 g hg) (h4.lt g hg)⟩⟩
theorem RefSAt.mono {w : World} {f f' : Nat → Prop} {p : Nat} {s : RefS} (h : RefSAt w p f s) (hf : ∀ k, f k → k < w.heap.size → f' k) : RefSAt w p f' s := by
  obtain ⟨h1, h2, v, h3, h4⟩ := h
  exact ⟨h1, hf p h2 (lt_of_block h3), v, h3, ⟨h4.1, fun g hg => hf g (h4.2 g hg) (h4.lt g hg)⟩⟩
theorem RefRAt.mono {w : World} {f f' : Nat → Prop} {p : Nat} {s : RefR} (h : RefRAt w p f s) (hf : ∀ k, f k → k < w.heap.size → f' k) : RefRAt w p f' s := by
  obtain ⟨h1, h2, v, h3, h4⟩ := h
  exact ⟨h1, hf p h2 (lt_of_block h3), v, h3, ⟨h4.1, fun g hg => hf g (h4.2 g hg) (h4.lt g hg)⟩⟩
theorem RcvAt.mono {w : World} {f f' : Nat → Prop} {p : Nat} {s : Rcv} (h : RcvAt w p f s) (hf : ∀ k, f k → k < w.heap.size → f' k) : RcvAt w p f' s := by
  obtain ⟨h1, h2, b, h3, h4, h5⟩ := h
  exact ⟨h1, hf p h2 (lt_of_block h3), b, h3, hf b h4 h5.lt, h5⟩
theorem Row.monoLt {w : World} {f f' : Nat → Prop} {e : TypeId} {sz : Nat} {v : Value} {n : Nat} {xs : List Value} (h : Row w f e sz v n xs) (hf : ∀ k, f k → k < w.heap.size → f' k) : Row w f' e sz v n xs := ⟨h.1, fun g hg => hf g (h.2 g hg) (h.lt g hg)⟩
theorem SndAt.away {w0 w w' : World} {c : Nat → Nat} {i j p : Nat} {s : Snd} (h : SndAt w p (fun k => c k = i) s) (hC : Col w0 w c) (hm : Mod (fun k => c k = j) w w') (hi : i ≠ 0) (hij : i ≠ j) (t : Nat) : SndAt w' p (fun k => paint c w w' t k = i) s := (h.keep hm (mod_away hij)).mono (paint_away hC hi t)
theorem SndAt.stay {w0 w w' : World} {c : Nat → Nat} {i p : Nat} {s : Snd} (h : SndAt w' p (fun k => c k = i) s) (hC : Col w0 w c) (hi : i ≠ 0) (t : Nat) : SndAt w' p (fun k => paint c w w' t k = i) s := h.mono (paint_away hC hi t)
theorem SndAt.still {w0 w w' : World} {c : Nat → Nat} {i p : Nat} {s : Snd} (h : SndAt w p (fun k => c k = i) s) (hC : Col w0 w c) (hm : Mod (fun _ => False) w w') (hi : i ≠ 0) (t : Nat) : SndAt w' p (fun k => paint c w w' t k = i) s := (h.keep hm (fun _ _ f => f)).mono (paint_away hC hi t)
theorem SndAt.mine {w0 w w' : World} {c : Nat → Nat} {i p : Nat} {s : Snd} (h : SndAt w' p (fun k => c k = i ∨ w.heap.size ≤ k) s) (hC : Col w0 w c) (hi : i ≠ 0) : SndAt w' p (fun k => paint c w w' i k = i) s := h.mono (paint_mine hC hi)
theorem SndAt.born {w w' : World} {p : Nat} {s : Snd} (h : SndAt w' p (fun k => w.heap.size ≤ k) s) (c : Nat → Nat) (i : Nat) : SndAt w' p (fun k => paint c w w' i k = i) s := h.mono (paint_born c w w' i)
theorem RefSAt.away {w0 w w' : World} {c : Nat → Nat} {i j p : Nat} {s : RefS} (h : RefSAt w p (fun k => c k = i) s) (hC : Col w0 w c) (hm : Mod (fun k => c k = j) w w') (hi : i ≠ 0) (hij : i ≠ j) (t : Nat) : RefSAt w' p (fun k => paint c w w' t k = i) s := (h.keep hm (mod_away hij)).mono (paint_away hC hi t)
theorem RefSAt.stay {w0 w w' : World} {c : Nat → Nat} {i p : Nat} {s : RefS} (h : RefSAt w' p (fun k => c k = i) s) (hC : Col w0 w c) (hi : i ≠ 0) (t : Nat) : RefSAt w' p (fun k => paint c w w' t k = i) s := h.mono (paint_away hC hi t)
theorem RefSAt.still {w0 w w' : World} {c : Nat → Nat} {i p : Nat} {s : RefS} (h : RefSAt w p (fun k => c k = i) s) (hC : Col w0 w c) (hm : Mod (fun _ => False) w w') (hi : i ≠ 0) (t : Nat) : RefSAt w' p (fun k => paint c w w' t k = i) s := (h.keep hm (fun _ _ f => f)).mono (paint_away hC hi t)
theorem RefSAt.mine {w0 w w' : World} {c : Nat → Nat} {i p : Nat} {s : RefS} (h : RefSAt w' p (fun k => c k = i ∨ w.heap.size ≤ k) s) (hC : Col w0 w c) (hi : i ≠ 0) : RefSAt w' p (fun k => paint c w w' i k = i) s := h.mono (paint_mine hC hi)
theorem RefSAt.born {w w' : World} {p : Nat} {s : RefS} (h : RefSAt w' p (fun k => w.heap.size ≤ k) s) (c : Nat → Nat) (i : Nat) : RefSAt w' p (fun k => paint c w w' i k = i) s := h.mono (paint_born c w w' i)
theorem RefRAt.away {w0 w w' : World} {c : Nat → Nat} {i j p : Nat} {s : RefR} (h : RefRAt w p (fun k => c k = i) s) (hC : Col w0 w c) (hm : Mod (fun k => c k = j) w w') (hi : i ≠ 0) (hij : i ≠ j) (t : Nat) : RefRAt w' p (fun k => paint c w w' t k = i) s := (h.keep hm (mod_away hij)).mono (paint_away hC hi t)
theorem RefRAt.stay {w0 w w' : World} {c : Nat → Nat} {i p : Nat} {s : RefR} (h : RefRAt w' p (fun k => c k = i) s) (hC : Col w0 w c) (hi : i ≠ 0) (t : Nat) : RefRAt w' p (fun k => paint c w w' t k = i) s := h.mono (paint_away hC hi t)
theorem RefRAt.still {w0 w w' : World} {c : Nat → Nat} {i p : Nat} {s : RefR} (h : RefRAt w p (fun k => c k = i) s) (hC : Col w0 w c) (hm : Mod (fun _ => False) w w') (hi : i ≠ 0) (t : Nat) : RefRAt w' p (fun k => paint c w w' t k = i) s := (h.keep hm (fun _ _ f => f)).mono (paint_away hC hi t)
theorem RefRAt.mine {w0 w w' : World} {c : Nat → Nat} {i p : Nat} {s : RefR} (h : RefRAt w' p (fun k => c k = i ∨ w.heap.size ≤ k) s) (hC : Col w0 w c) (hi : i ≠ 0) : RefRAt w' p (fun k => paint c w w' i k = i) s := h.mono (paint_mine hC hi)
theorem RefRAt.born {w w' : World} {p : Nat} {s : RefR} (h : RefRAt w' p (fun k => w.heap.size ≤ k) s) (c : Nat → Nat) (i : Nat) : RefRAt w' p (fun k => paint c w w' i k = i) s := h.mono (paint_born c w w' i)
theorem RcvAt.away {w0 w w' : World} {c : Nat → Nat} {i j p : Nat} {s : Rcv} (h : RcvAt w p (fun k => c k = i) s) (hC : Col w0 w c) (hm : Mod (fun k => c k = j) w w') (hi : i ≠ 0) (hij : i ≠ j) (t : Nat) : RcvAt w' p (fun k => paint c w w' t k = i) s := (h.keep hm (mod_away hij)).mono (paint_away hC hi t)
theorem RcvAt.stay {w0 w w' : World} {c : Nat → Nat} {i p : Nat} {s : Rcv} (h : RcvAt w' p (fun k => c k = i) s) (hC : Col w0 w c) (hi : i ≠ 0) (t : Nat) : RcvAt w' p (fun k => paint c w w' t k = i) s := h.mono (paint_away hC hi t)
theorem RcvAt.still {w0 w w' : World} {c : Nat → Nat} {i p : Nat} {s : Rcv} (h : RcvAt w p (fun k => c k = i) s) (hC : Col w0 w c) (hm : Mod (fun _ => False) w w') (hi : i ≠ 0) (t : Nat) : RcvAt w' p (fun k => paint c w w' t k = i) s := (h.keep hm (fun _ _ f => f)).mono (paint_away hC hi t)
theorem RcvAt.mine {w0 w w' : World} {c : Nat → Nat} {i p : Nat} {s : Rcv} (h : RcvAt w' p (fun k => c k = i ∨ w.heap.size ≤ k) s) (hC : Col w0 w c) (hi : i ≠ 0) : RcvAt w' p (fun k => paint c w w' i k = i) s := h.mono (paint_mine hC hi)
theorem RcvAt.born {w w' : World} {p : Nat} {s : Rcv} (h : RcvAt w' p (fun k => w.heap.size ≤ k) s) (c : Nat → Nat) (i : Nat) : RcvAt w' p (fun k => paint c w w' i k = i) s := h.mono (paint_born c w w' i)
theorem Row.away {w0 w w' : World} {c : Nat → Nat} {i j : Nat} {e : TypeId} {sz n : Nat} {v : Value} {xs : List Value} (h : Row w (fun k => c k = i) e sz v n xs) (hC : Col w0 w c) (hm : Mod (fun k => c k = j) w w') (hi : i ≠ 0) (hij : i ≠ j) (t : Nat) : Row w' (fun k => paint c w w' t k = i) e sz v n xs := (h.keep hm (mod_away hij)).monoLt (paint_away hC hi t)
theorem Row.stillC {w0 w w' : World} {c : Nat → Nat} {i : Nat} {e : TypeId} {sz n : Nat} {v : Value} {xs : List Value} (h : Row w (fun k => c k = i) e sz v n xs) (hC : Col w0 w c) (hm : Mod (fun _ => False) w w') (hi : i ≠ 0) (t : Nat) : Row w' (fun k => paint c w w' t k = i) e sz v n xs := (h.keep hm (fun _ _ f => f)).monoLt (paint_away hC hi t)
theorem Row.mine {w0 w w' : World} {c : Nat → Nat} {i : Nat} {e : TypeId} {sz n : Nat} {v : Value} {xs : List Value} (h : Row w' (fun k => c k = i ∨ w.heap.size ≤ k) e sz v n xs) (hC : Col w0 w c) (hi : i ≠ 0) : Row w' (fun k => paint c w w' i k = i) e sz v n xs := h.monoLt (paint_mine hC hi)
theorem Row.born {w w' : World} {e : TypeId} {sz n : Nat} {v : Value} {xs : List Value} (h : Row w' (fun k => w.heap.size ≤ k) e sz v n xs) (c : Nat → Nat) (i : Nat) : Row w' (fun k => paint c w w' i k = i) e sz v n xs := h.monoLt (paint_born c w w' i)
end Go.Proofs.Ytidkapanpieflaa
