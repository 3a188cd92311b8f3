/- A node's end of a link. -/
import Derived.Test.YtidkapanpieflaaLife3
namespace Go.Proofs.Ytidkapanpieflaa
open Go.RowKit
set_option linter.unusedVariables false
set_option linter.unusedSimpArgs false
theorem LifeAt.outM {w w' : World} {f : Nat → Prop} {p po pi : Nat} {fs fr : Nat → Prop} {L : Life} {s' : Snd} (he : 0 ≤ L.epoch ∧ L.epoch < 4294967296) (hp : f p) (hpw : p < w.heap.size) (hb : w.heap[p]? = some (.cells (L.cells po pi) 110 (0, 0))) (hr : RcvAt w pi fr L.inn) (h6 : ∀ k, fs k → f k ∧ k ≠ p ∧ ¬ fr k) (h7 : ∀ k, fr k → (f k ∧ k < w.heap.size) ∧ k ≠ p)
    (hs : SndAt w' po (fun k => fs k ∨ w.heap.size ≤ k) s') (hm : Mod fs w w') : LifeAt w' p (fun k => f k ∨ w.heap.size ≤ k) { L with out := s' } := by
  refine ⟨he, .inl hp, po, pi, _, fr, hm.keep hb fun h => (h6 p h).2.1 rfl, hs, hr.keep hm fun k h1 h2 => (h6 k h2).2.2 h1, fun k hk => ?_, fun k hk => ⟨.inl (h7 k hk).1.1, (h7 k hk).2⟩⟩
  rcases hk with hk | hk
  · exact ⟨.inl (h6 k hk).1, (h6 k hk).2⟩
  · exact ⟨.inr hk, by omega, fun h => by have := (h7 k h).1.2; omega⟩
def EndAt (w : World) (q : Nat) (f : Nat → Prop) (L : Life) : Prop :=
  f q ∧ ∃ (p : Nat) (fl : Nat → Prop), w.heap[q]? = some (.cells #[.pointer (some ⟨p, 0, none⟩)] 108 (0, 0)) ∧ LifeAt w p fl L ∧ (∀ k, fl k → (f k ∧ k < w.heap.size) ∧ k ≠ q)
theorem EndAt.keep {w w' : World} {F f : Nat → Prop} {q : Nat} {L : Life} (h : EndAt w q f L) (hm : Mod F w w') (hd : ∀ k, f k → ¬ F k) : EndAt w' q f L := by
  obtain ⟨h1, p, fl, h2, h3, h4⟩ := h
  exact ⟨h1, p, fl, hm.keep h2 (hd q h1), h3.keep hm fun k hk => hd k (h4 k hk).1.1, fun k hk => ⟨⟨(h4 k hk).1.1, Nat.lt_of_lt_of_le (h4 k hk).1.2 hm.size⟩, (h4 k hk).2⟩⟩
theorem EndAt.mono {w : World} {f f' : Nat → Prop} {q : Nat} {L : Life} (h : EndAt w q f L) (hf : ∀ k, f k → k < w.heap.size → f' k) : EndAt w q f' L := by
  obtain ⟨h1, p, fl, h2, h3, h4⟩ := h
  exact ⟨hf q h1 (lt_of_block h2), p, fl, h2, h3, fun k hk => ⟨⟨hf k (h4 k hk).1.1 (h4 k hk).1.2, (h4 k hk).1.2⟩, (h4 k hk).2⟩⟩
theorem EndAt.drew {w : World} {f : Nat → Prop} {q : Nat} {L : Life} (h : EndAt w q f L) : EndAt w.drew q f L := h.keep ((Mod.refl (fun _ => False) w).drew) fun _ _ f => f
theorem EndAt.of {w : World} {f : Nat → Prop} {q p : Nat} {fl : Nat → Prop} {L : Life} (h1 : f q) (h2 : w.heap[q]? = some (.cells #[.pointer (some ⟨p, 0, none⟩)] 108 (0, 0))) (h3 : LifeAt w p fl L) (h4 : ∀ k, fl k → k < w.heap.size → f k ∧ k ≠ q) : EndAt w q f L :=
  ⟨h1, p, fun k => fl k ∧ k < w.heap.size, h2, h3.mono fun k a b => ⟨a, b⟩, fun k hk => ⟨⟨(h4 k hk.1 hk.2).1, hk.2⟩, (h4 k hk.1 hk.2).2⟩⟩
theorem NewEnd_any (n ep : Int) (w : World) (h0 : 0 ≤ ep) (h1 : ep < 4294967296) :
    Calls Try.prog 36 #[.int .i64 n, .int .u32 ep] w fun e w' => ∃ q, e = .returned (.pointer (some ⟨q, 0, none⟩)) ∧ EndAt w' q (fun k => w.heap.size ≤ k) (Life.fresh n true ep) ∧ Mod (fun _ => False) w w' := by
  go_enter Try.func36, Try.ntmps36
  go_wp2_with fail
  refine (fresh_any n true ep _ h0 h1).mono ?_; rintro e w1 ⟨p, rfl, hl, hm⟩
  have HL := Lib.hid hl
  have HM := Lib.hid hm
  clear hl hm
  go_wp2
  go_returns
  have ha : Mod (fun _ => False) w1 (w1.alloc (.cells #[.pointer (some ⟨p, 0, none⟩)] 108)) := (Mod.refl _ _).alloc _
  have hs := HM.out.size
  refine ⟨_, rfl, EndAt.of hs (allocNew w1 _) ((HL.out.mono (f' := fun k => w.heap.size ≤ k ∧ k < w1.heap.size) fun k h1 h2 => ⟨h1, h2⟩).keep ha fun _ _ f => f) fun k hk _ => ⟨hk.1, by omega⟩, HM.out.trans ha fun _ f => f.elim⟩
/-- the parts of an end -/
theorem EndAt.parts {w : World} {f : Nat → Prop} {q : Nat} {L : Life} (h : EndAt w q f L) : ∃ p po pi fl fs fr, f q ∧ q < w.heap.size ∧ p < w.heap.size ∧ fl p ∧ p ≠ q ∧ w.heap[q]? = some (.cells #[.pointer (some ⟨p, 0, none⟩)] 108 (0, 0)) ∧ w.heap[p]? = some (.cells (L.cells po pi) 110 (0, 0)) ∧
    LifeAt w p fl L ∧ SndAt w po fs L.out ∧ RcvAt w pi fr L.inn ∧ (0 ≤ L.epoch ∧ L.epoch < 4294967296) ∧ (∀ k, fl k → (f k ∧ k < w.heap.size) ∧ k ≠ q) ∧ (∀ k, fs k → fl k ∧ k ≠ p ∧ ¬ fr k) ∧ (∀ k, fr k → (fl k ∧ k < w.heap.size) ∧ k ≠ p) := by
  obtain ⟨h1, p, fl, h2, h3, h4⟩ := h
  have h3' := h3
  obtain ⟨g1, g2, po, pi, fs, fr, g3, g4, g5, g6, g7⟩ := h3
  exact ⟨p, po, pi, fl, fs, fr, h1, lt_of_block h2, lt_of_block g3, g2, (h4 p g2).2, h2, g3, h3', g4, g5, g1, h4, g6, fun k hk => ⟨⟨(g7 k hk).1, (h4 k (g7 k hk).1).1.2⟩, (g7 k hk).2⟩⟩
theorem EndAt.outM {w w' : World} {f : Nat → Prop} {q p po pi : Nat} {fl fs fr : Nat → Prop} {L : Life} {s' : Snd} (h1 : f q) (hq : q < w.heap.size) (hp : p < w.heap.size) (hpf : fl p) (hbq : w.heap[q]? = some (.cells #[.pointer (some ⟨p, 0, none⟩)] 108 (0, 0))) (hbp : w.heap[p]? = some (.cells (L.cells po pi) 110 (0, 0)))
    (hr : RcvAt w pi fr L.inn) (he : 0 ≤ L.epoch ∧ L.epoch < 4294967296) (h4 : ∀ k, fl k → (f k ∧ k < w.heap.size) ∧ k ≠ q) (h6 : ∀ k, fs k → fl k ∧ k ≠ p ∧ ¬ fr k) (h7 : ∀ k, fr k → (fl k ∧ k < w.heap.size) ∧ k ≠ p)
    (hs : SndAt w' po (fun k => fs k ∨ w.heap.size ≤ k) s') (hm : Mod fs w w') : EndAt w' q (fun k => f k ∨ w.heap.size ≤ k) { L with out := s' } ∧ Mod f w w' := by
  refine ⟨EndAt.of (.inl h1) (hm.keep hbq fun h => (h4 q (h6 q h).1).2 rfl) (LifeAt.outM he hpf hp hbp hr h6 h7 hs hm) fun k hk _ => ?_, hm.mono fun k hk => .inl (h4 k (h6 k hk).1).1.1⟩
  rcases hk with hk | hk
  · exact ⟨.inl (h4 k hk).1.1, (h4 k hk).2⟩
  · exact ⟨.inr hk, by omega⟩
theorem EPush_any (q : Nat) (f : Nat → Prop) (L : Life) (b : ByteArray) (w : World) (h : EndAt w q f L) :
    Calls Try.prog 39 #[.pointer (some ⟨q, 0, none⟩), .string b] w fun e w' => e = .returned (.bool L.out.full) ∧ EndAt w' q (fun k => f k ∨ w.heap.size ≤ k) { L with out := L.out.push b } ∧ Mod f w w' := by
  obtain ⟨p, po, pi, fl, fs, fr, h1, hq, hp, hpf, hpq, hbq, hbp, hl, hs, hr, he, h4, h6, h7⟩ := h.parts
  have c0 : w.cell? ⟨q, 0, none⟩ = some (.pointer (some ⟨p, 0, none⟩)) := cellOf hbq 0
  have c3 : w.cell? ⟨p, 3, none⟩ = some (.pointer (some ⟨po, 0, none⟩)) := cellOf hbp 3
  have HS := Lib.hid hs
  have HE : Hid (∀ w', SndAt w' po (fun k => fs k ∨ w.heap.size ≤ k) (L.out.push b) → Mod fs w w' → EndAt w' q (fun k => f k ∨ w.heap.size ≤ k) { L with out := L.out.push b } ∧ Mod f w w') := Lib.hid fun w' a b => EndAt.outM h1 hq hp hpf hbq hbp hr he h4 h6 h7 a b
  clear hbq hbp hl hs hr h4 h6 h7 h
  go_enter Try.func39, Try.ntmps39
  go_wp2_with fail
  refine (Push_any po fs L.out b _ HS.out).mono ?_; rintro e w1 ⟨rfl, hs, hm⟩
  have HX := Lib.hid (HE.out _ hs hm)
  clear hs hm
  go_wp2
  go_returns
  exact ⟨rfl, HX.out⟩
theorem EEpoch_any (q : Nat) (f : Nat → Prop) (L : Life) (w : World) (h : EndAt w q f L) :
    Calls Try.prog 49 #[.pointer (some ⟨q, 0, none⟩)] w fun e w' => e = .returned (.int .u32 L.epoch) ∧ w = w' := by
  obtain ⟨p, po, pi, fl, fs, fr, h1, hq, hp, hpf, hpq, hbq, hbp, hl, hs, hr, he, h4, h6, h7⟩ := h.parts
  have c0 : w.cell? ⟨q, 0, none⟩ = some (.pointer (some ⟨p, 0, none⟩)) := cellOf hbq 0
  have c2 : w.cell? ⟨p, 2, none⟩ = some (.int .u32 L.epoch) := cellOf hbp 2
  clear hbq hbp hl hs hr h4 h6 h7 h
  go_enter Try.func49, Try.ntmps49
  go_wp2
  go_returns
  exact ⟨rfl, rfl⟩
theorem EOpen_any (q : Nat) (f : Nat → Prop) (L : Life) (w : World) (h : EndAt w q f L) :
    Calls Try.prog 50 #[.pointer (some ⟨q, 0, none⟩)] w fun e w' => e = .returned (.int .i64 L.out.bodies.length) ∧ w = w' := by
  obtain ⟨p, po, pi, fl, fs, fr, h1, hq, hp, hpf, hpq, hbq, hbp, hl, hs, hr, he, h4, h6, h7⟩ := h.parts
  have c0 : w.cell? ⟨q, 0, none⟩ = some (.pointer (some ⟨p, 0, none⟩)) := cellOf hbq 0
  have c3 : w.cell? ⟨p, 3, none⟩ = some (.pointer (some ⟨po, 0, none⟩)) := cellOf hbp 3
  have HS := Lib.hid hs
  clear hbq hbp hl hs hr h4 h6 h7 h
  go_enter Try.func50, Try.ntmps50
  go_wp2_with fail
  refine (Open_any po fs L.out _ HS.out).mono ?_; rintro e w1 ⟨rfl, rfl⟩
  go_wp2
  go_returns
  exact ⟨rfl, rfl⟩
theorem EBeat_any (q : Nat) (f : Nat → Prop) (L : Life) (w : World) (h : EndAt w q f L) :
    Calls Try.prog 43 #[.pointer (some ⟨q, 0, none⟩)] w fun e w' => ∃ v, e = .returned v ∧ Row w' (fun k => w.heap.size ≤ k) 65 7 v L.beat.length (MsgV.vals L.beat) ∧ Mod (fun _ => False) w w' := by
  obtain ⟨p, po, pi, fl, fs, fr, h1, hq, hp, hpf, hpq, hbq, hbp, hl, hs, hr, he, h4, h6, h7⟩ := h.parts
  have c0 : w.cell? ⟨q, 0, none⟩ = some (.pointer (some ⟨p, 0, none⟩)) := cellOf hbq 0
  have HL := Lib.hid hl
  clear hbq hbp hl hs hr h4 h6 h7 h
  go_enter Try.func43, Try.ntmps43
  go_wp2_with fail
  refine (beat_any p fl L _ HL.out).mono ?_; rintro e w1 ⟨v, rfl, hv, hm⟩
  have HV := Lib.hid hv
  have HM := Lib.hid hm
  clear hv hm
  go_wp2
  go_returns
  exact ⟨_, rfl, HV.out, HM.out⟩
set_option maxRecDepth 100000 in
theorem ESend_any (q : Nat) (f : Nat → Prop) (L : Life) (w : World) (h : EndAt w q f L) :
    Calls Try.prog 41 #[.pointer (some ⟨q, 0, none⟩)] w fun e w' => ∃ v, e = .returned v ∧ Row w' (fun k => w.heap.size ≤ k) 65 7 v L.out.news.length (MsgV.vals (L.out.news.map L.body)) ∧ EndAt w' q f { L with out := L.out.send } ∧ Mod f w w' := by
  have hgrow := h
  obtain ⟨p, po, pi, fl, fs, fr, h1, hq, hp, hpf, hpq, hbq, hbp, hl, hs, hr, he, h4, h6, h7⟩ := h.parts
  have c0 : w.cell? ⟨q, 0, none⟩ = some (.pointer (some ⟨p, 0, none⟩)) := cellOf hbq 0
  have c3 : w.cell? ⟨p, 3, none⟩ = some (.pointer (some ⟨po, 0, none⟩)) := cellOf hbp 3
  have np : ¬ fs p := fun h => (h6 p h).2.1 rfl
  have nq : ¬ fs q := fun h => (h4 q (h6 q h).1).2 rfl
  have hnl : L.out.news.length ≤ 64 := by have := hs.1.s2; have := hs.1.w1; simp [Snd.news, Snd.pkts]; omega
  have HS : Hid (SndAt w.drew po fs L.out) := Lib.hid hs
  have HE : Hid (∀ w', SndAt w' po fs L.out.send → Mod fs w w' → LifeAt w' p fl { L with out := L.out.send } ∧ EndAt w' q f { L with out := L.out.send } ∧ Mod f w w') := Lib.hid fun w' a m => by
    have hl2 : LifeAt w' p fl { L with out := L.out.send } := ⟨he, hpf, po, pi, fs, fr, m.keep hbp np, a, hr.keep m fun k h1 h2 => (h6 k h2).2.2 h1, h6, fun k hk => ⟨(h7 k hk).1.1, (h7 k hk).2⟩⟩
    exact ⟨hl2, ⟨h1, p, fl, m.keep hbq nq, hl2, fun k hk => ⟨⟨(h4 k hk).1.1, Nat.lt_of_lt_of_le (h4 k hk).1.2 m.size⟩, (h4 k hk).2⟩⟩, m.mono fun k hk => .inl (h4 k (h6 k hk).1).1.1⟩
  clear hbq hbp hl hs hr h4 h6 h7 h hgrow
  go_enter Try.func41, Try.ntmps41
  go_wp2_with fail
  have hS : w.drew.cell? ⟨q, 0, none⟩ = some (.pointer (some ⟨p, 0, none⟩)) ∧ w.drew.cell? ⟨p, 3, none⟩ = some (.pointer (some ⟨po, 0, none⟩)) := ⟨c0, c3⟩
  clear c0 c3
  refine wp_region_plan [] [(0, 0), (1, 0), (2, 0), (3, 1), (4, 0), (5, 0), (6, 0), (7, 1), (8, 0), (9, 0), (10, 1), (11, 2), (12, 2), (13, 0)] (fun w' : World => w'.cell? ⟨q, 0, none⟩ = some (.pointer (some ⟨p, 0, none⟩)) ∧ w'.cell? ⟨p, 3, none⟩ = some (.pointer (some ⟨po, 0, none⟩))) (by kernel_rfl) (by kernel_rfl) (fun d _ _ _ _ h => by cases d <;> exact h) ?_
  repeat (first | (refine plan_skip rfl rfl ?_; simp only [List.getElem_toArray, List.getElem_cons_succ, List.getElem_cons_zero, Act.put, List.setIfInBounds_toArray, List.set_cons_zero, List.set_cons_succ]) | (refine plan_pass2 rfl rfl ?_; simp only [List.getElem_toArray, List.getElem_cons_succ, List.getElem_cons_zero, Act.put, List.setIfInBounds_toArray, List.set_cons_zero, List.set_cons_succ]) | (refine plan_pass3 rfl rfl ?_; simp only [List.getElem_toArray, List.getElem_cons_succ, List.getElem_cons_zero, Act.put, List.setIfInBounds_toArray, List.set_cons_zero, List.set_cons_succ]) | (refine plan_take (v := ?_) rfl rfl ?_ ?_; rotate_left; (focus (intro w0; go_simp; try with_reducible rfl)); simp only [List.getElem_toArray, List.getElem_cons_succ, List.getElem_cons_zero, Act.put, List.setIfInBounds_toArray, List.set_cons_zero, List.set_cons_succ]) | (refine plan_held (v := ?_) rfl rfl hS ?_ ?_; rotate_left; (focus (intro w0 hSw; (try dsimp only at hSw); go_split_ands; go_simp; try with_reducible rfl)); simp only [List.getElem_toArray, List.getElem_cons_succ, List.getElem_cons_zero, Act.put, List.setIfInBounds_toArray, List.set_cons_zero, List.set_cons_succ])  | (refine plan_skip1 rfl rfl hS ?_; simp only [List.getElem_toArray, List.getElem_cons_succ, List.getElem_cons_zero, Act.put, List.setIfInBounds_toArray, List.set_cons_zero, List.set_cons_succ]))
  (refine plan_do rfl rfl fun K hK => ?_; try simp only [List.getElem_toArray, List.getElem_cons_succ, List.getElem_cons_zero])
  go_simp
  refine (Send_any po fs L.out _ HS.out).mono ?_; rintro e w1 ⟨v1, rfl, hv1, hs, hm⟩
  have hS1 : w1.cell? ⟨q, 0, none⟩ = some (.pointer (some ⟨p, 0, none⟩)) ∧ w1.cell? ⟨p, 3, none⟩ = some (.pointer (some ⟨po, 0, none⟩)) := ⟨hm.cell nq hS.1, hm.cell np hS.2⟩
  refine hK _ _ hS1 ?_
  clear hK K hS
  try simp only [List.getElem_toArray, List.getElem_cons_succ, List.getElem_cons_zero, Act.put, List.setIfInBounds_toArray, List.set_cons_zero, List.set_cons_succ]
  replace hm := Mod.ofDrew hm
  obtain ⟨hx1, hx2, hx3⟩ := HE.out _ hs hm
  have HX1 := Lib.hid hx1
  have HX2 := Lib.hid hx2
  have HX3 := Lib.hid hx3
  have HV := Lib.hid hv1.reads
  have hsz := hm.size
  clear hs hm hx1 hx2 hx3 hv1
  repeat (first | (refine plan_skip rfl rfl ?_; simp only [List.getElem_toArray, List.getElem_cons_succ, List.getElem_cons_zero, Act.put, List.setIfInBounds_toArray, List.set_cons_zero, List.set_cons_succ]) | (refine plan_pass2 rfl rfl ?_; simp only [List.getElem_toArray, List.getElem_cons_succ, List.getElem_cons_zero, Act.put, List.setIfInBounds_toArray, List.set_cons_zero, List.set_cons_succ]) | (refine plan_pass3 rfl rfl ?_; simp only [List.getElem_toArray, List.getElem_cons_succ, List.getElem_cons_zero, Act.put, List.setIfInBounds_toArray, List.set_cons_zero, List.set_cons_succ]) | (refine plan_take (v := ?_) rfl rfl ?_ ?_; rotate_left; (focus (intro w0; go_simp; try with_reducible rfl)); simp only [List.getElem_toArray, List.getElem_cons_succ, List.getElem_cons_zero, Act.put, List.setIfInBounds_toArray, List.set_cons_zero, List.set_cons_succ]) | (refine plan_held (v := ?_) rfl rfl hS1 ?_ ?_; rotate_left; (focus (intro w0 hSw; (try dsimp only at hSw); go_split_ands; go_simp; try with_reducible rfl)); simp only [List.getElem_toArray, List.getElem_cons_succ, List.getElem_cons_zero, Act.put, List.setIfInBounds_toArray, List.set_cons_zero, List.set_cons_succ])  | (refine plan_skip1 rfl rfl hS1 ?_; simp only [List.getElem_toArray, List.getElem_cons_succ, List.getElem_cons_zero, Act.put, List.setIfInBounds_toArray, List.set_cons_zero, List.set_cons_succ]))
  (refine plan_do rfl rfl fun K hK => ?_; try simp only [List.getElem_toArray, List.getElem_cons_succ, List.getElem_cons_zero])
  go_simp
  refine (bodies_any p fl { L with out := L.out.send } v1 L.out.news _ HX1.out HV.out (by omega)).mono ?_; rintro e w2 ⟨v2, rfl, hv2, hm⟩
  refine hK _ _ ⟨hm.cell (fun f => f) hS1.1, hm.cell (fun f => f) hS1.2⟩ ?_
  clear hK K hS1
  try simp only [List.getElem_toArray, List.getElem_cons_succ, List.getElem_cons_zero, Act.put, List.setIfInBounds_toArray, List.set_cons_zero, List.set_cons_succ]
  have HV2 := Lib.hid (hv2.mono (f' := fun k => w.heap.size ≤ k) fun k hk => Nat.le_trans hsz hk)
  have HY := Lib.hid (HX2.out.keep hm fun _ _ f => f)
  have HZ := Lib.hid (HX3.out.trans hm fun _ f => f.elim)
  clear hv2 hm
  repeat (first | (refine plan_skip rfl rfl ?_; simp only [List.getElem_toArray, List.getElem_cons_succ, List.getElem_cons_zero, Act.put, List.setIfInBounds_toArray, List.set_cons_zero, List.set_cons_succ]) | (refine plan_pass2 rfl rfl ?_; simp only [List.getElem_toArray, List.getElem_cons_succ, List.getElem_cons_zero, Act.put, List.setIfInBounds_toArray, List.set_cons_zero, List.set_cons_succ]) | (refine plan_pass3 rfl rfl ?_; simp only [List.getElem_toArray, List.getElem_cons_succ, List.getElem_cons_zero, Act.put, List.setIfInBounds_toArray, List.set_cons_zero, List.set_cons_succ]) | (refine plan_take (v := ?_) rfl rfl ?_ ?_; rotate_left; (focus (intro w0; go_simp; try with_reducible rfl)); simp only [List.getElem_toArray, List.getElem_cons_succ, List.getElem_cons_zero, Act.put, List.setIfInBounds_toArray, List.set_cons_zero, List.set_cons_succ]) | fail )
  refine plan_nil ?_
  go_wp2
  go_returns
  exact ⟨_, rfl, HV2.out, HY.out, HZ.out⟩
def Life.next (L : Life) : Life := Life.fresh L.node true (Sr.add L.epoch 1)
set_option maxRecDepth 100000 in
theorem next_any (q : Nat) (f : Nat → Prop) (L : Life) (w : World) (h : EndAt w q f L) :
    Calls Try.prog 75 #[.pointer (some ⟨q, 0, none⟩)] w fun e w' => (∃ v, e = .returned v) ∧ EndAt w' q (fun k => f k ∨ w.heap.size ≤ k) L.next ∧ Mod f w w' := by
  obtain ⟨p, po, pi, fl, fs, fr, h1, hq, hp, hpf, hpq, hbq, hbp, hl, hs, hr, he, h4, h6, h7⟩ := h.parts
  have c0 : w.cell? ⟨q, 0, none⟩ = some (.pointer (some ⟨p, 0, none⟩)) := cellOf hbq 0
  have c1 : w.cell? ⟨p, 0, none⟩ = some (.int .i64 L.node) := cellOf hbp 0
  have c2 : w.cell? ⟨p, 2, none⟩ = some (.int .u32 L.epoch) := cellOf hbp 2
  have HBQ : Hid (w.drew.heap[q]? = _) := Lib.hid hbq
  clear hbq hbp hl hs hr h4 h6 h7 h
  go_enter Try.func75, Try.ntmps75
  have hS : w.drew.cell? ⟨q, 0, none⟩ = some (.pointer (some ⟨p, 0, none⟩)) ∧ w.drew.cell? ⟨p, 0, none⟩ = some (.int .i64 L.node) ∧ w.drew.cell? ⟨p, 2, none⟩ = some (.int .u32 L.epoch) := ⟨c0, c1, c2⟩
  clear c0 c1 c2
  go_wp2_with fail
  refine wp_region_plan [19] [(0, 0), (1, 0), (2, 0), (3, 0), (4, 1), (5, 0), (6, 0), (7, 1), (8, 0), (9, 0), (10, 0), (11, 1), (12, 0), (13, 0), (14, 1), (15, 2), (16, 2), (17, 0), (18, 0), (19, 3)] (fun w' : World => w'.cell? ⟨q, 0, none⟩ = some (.pointer (some ⟨p, 0, none⟩)) ∧ w'.cell? ⟨p, 0, none⟩ = some (.int .i64 L.node) ∧ w'.cell? ⟨p, 2, none⟩ = some (.int .u32 L.epoch)) (by kernel_rfl) (by kernel_rfl) (fun d _ _ _ _ h => by cases d <;> exact h) ?_
  repeat (first | (refine plan_skip rfl rfl ?_; simp only [List.getElem_toArray, List.getElem_cons_succ, List.getElem_cons_zero, Act.put, List.setIfInBounds_toArray, List.set_cons_zero, List.set_cons_succ]) | (refine plan_pass2 rfl rfl ?_; simp only [List.getElem_toArray, List.getElem_cons_succ, List.getElem_cons_zero, Act.put, List.setIfInBounds_toArray, List.set_cons_zero, List.set_cons_succ]) | (refine plan_pass3 rfl rfl ?_; simp only [List.getElem_toArray, List.getElem_cons_succ, List.getElem_cons_zero, Act.put, List.setIfInBounds_toArray, List.set_cons_zero, List.set_cons_succ]) | (refine plan_take (v := ?_) rfl rfl ?_ ?_; rotate_left; (focus (intro w0; go_simp; try with_reducible rfl)); simp only [List.getElem_toArray, List.getElem_cons_succ, List.getElem_cons_zero, Act.put, List.setIfInBounds_toArray, List.set_cons_zero, List.set_cons_succ]) | (refine plan_held (v := ?_) rfl rfl hS ?_ ?_; rotate_left; (focus (intro w0 hSw; (try dsimp only at hSw); go_split_ands; go_simp; try with_reducible rfl)); simp only [List.getElem_toArray, List.getElem_cons_succ, List.getElem_cons_zero, Act.put, List.setIfInBounds_toArray, List.set_cons_zero, List.set_cons_succ])  | (refine plan_skip1 rfl rfl hS ?_; simp only [List.getElem_toArray, List.getElem_cons_succ, List.getElem_cons_zero, Act.put, List.setIfInBounds_toArray, List.set_cons_zero, List.set_cons_succ]))
  (refine plan_do rfl rfl fun K hK => ?_; try simp only [List.getElem_toArray, List.getElem_cons_succ, List.getElem_cons_zero])
  go_simp
  refine (Add_any L.epoch 1 (by decide) (by decide) _).mono ?_; rintro e w' ⟨rfl, rfl⟩
  refine hK _ _ hS ?_
  clear hK K
  try simp only [List.getElem_toArray, List.getElem_cons_succ, List.getElem_cons_zero, Act.put, List.setIfInBounds_toArray, List.set_cons_zero, List.set_cons_succ]
  repeat (first | (refine plan_skip rfl rfl ?_; simp only [List.getElem_toArray, List.getElem_cons_succ, List.getElem_cons_zero, Act.put, List.setIfInBounds_toArray, List.set_cons_zero, List.set_cons_succ]) | (refine plan_pass2 rfl rfl ?_; simp only [List.getElem_toArray, List.getElem_cons_succ, List.getElem_cons_zero, Act.put, List.setIfInBounds_toArray, List.set_cons_zero, List.set_cons_succ]) | (refine plan_pass3 rfl rfl ?_; simp only [List.getElem_toArray, List.getElem_cons_succ, List.getElem_cons_zero, Act.put, List.setIfInBounds_toArray, List.set_cons_zero, List.set_cons_succ]) | (refine plan_take (v := ?_) rfl rfl ?_ ?_; rotate_left; (focus (intro w0; go_simp; try with_reducible rfl)); simp only [List.getElem_toArray, List.getElem_cons_succ, List.getElem_cons_zero, Act.put, List.setIfInBounds_toArray, List.set_cons_zero, List.set_cons_succ]) | (refine plan_held (v := ?_) rfl rfl hS ?_ ?_; rotate_left; (focus (intro w0 hSw; (try dsimp only at hSw); go_split_ands; go_simp; try with_reducible rfl)); simp only [List.getElem_toArray, List.getElem_cons_succ, List.getElem_cons_zero, Act.put, List.setIfInBounds_toArray, List.set_cons_zero, List.set_cons_succ])  | (refine plan_skip1 rfl rfl hS ?_; simp only [List.getElem_toArray, List.getElem_cons_succ, List.getElem_cons_zero, Act.put, List.setIfInBounds_toArray, List.set_cons_zero, List.set_cons_succ]))
  (refine plan_do rfl rfl fun K hK => ?_; try simp only [List.getElem_toArray, List.getElem_cons_succ, List.getElem_cons_zero])
  go_simp
  refine (fresh_any L.node true (Sr.add L.epoch 1) _ (Sr.add_bd _ _).1 (Sr.add_bd _ _).2).mono ?_; rintro e w1 ⟨p2, rfl, hl, hm⟩
  refine hK _ _ ⟨hm.cell (fun f => f) hS.1, hm.cell (fun f => f) hS.2.1, hm.cell (fun f => f) hS.2.2⟩ ?_
  clear hK K hS
  try simp only [List.getElem_toArray, List.getElem_cons_succ, List.getElem_cons_zero, Act.put, List.setIfInBounds_toArray, List.set_cons_zero, List.set_cons_succ]
  have hbq := hm.keep HBQ.out fun f => f
  have hsz := hm.size
  have k0 : w1.cell? ⟨q, 0, none⟩ = some (.pointer (some ⟨p, 0, none⟩)) := cellOf hbq 0
  have z0 : w1.frozen? ⟨q, 0, none⟩ = false := freeOf hbq 0
  have HB := Lib.hid hbq
  have HL := Lib.hid hl
  have HM := Lib.hid (Mod.ofDrew hm)
  clear hbq hl hm
  repeat (first | (refine plan_skip rfl rfl ?_; simp only [List.getElem_toArray, List.getElem_cons_succ, List.getElem_cons_zero, Act.put, List.setIfInBounds_toArray, List.set_cons_zero, List.set_cons_succ]) | (refine plan_pass2 rfl rfl ?_; simp only [List.getElem_toArray, List.getElem_cons_succ, List.getElem_cons_zero, Act.put, List.setIfInBounds_toArray, List.set_cons_zero, List.set_cons_succ]) | (refine plan_pass3 rfl rfl ?_; simp only [List.getElem_toArray, List.getElem_cons_succ, List.getElem_cons_zero, Act.put, List.setIfInBounds_toArray, List.set_cons_zero, List.set_cons_succ]) | (refine plan_take (v := ?_) rfl rfl ?_ ?_; rotate_left; (focus (intro w0; go_simp; try with_reducible rfl)); simp only [List.getElem_toArray, List.getElem_cons_succ, List.getElem_cons_zero, Act.put, List.setIfInBounds_toArray, List.set_cons_zero, List.set_cons_succ]) | fail )
  (refine plan_end rfl rfl rfl fun K hK => ?_; (try simp only [List.getElem_toArray, List.getElem_cons_succ, List.getElem_cons_zero]); go_simp; refine hK _ _ ?_; clear hK K; try simp only [List.getElem_toArray, List.getElem_cons_succ, List.getElem_cons_zero, Act.put, List.setIfInBounds_toArray, List.set_cons_zero, List.set_cons_succ])
  repeat (first | (refine plan_skip rfl rfl ?_; simp only [List.getElem_toArray, List.getElem_cons_succ, List.getElem_cons_zero, Act.put, List.setIfInBounds_toArray, List.set_cons_zero, List.set_cons_succ]) | (refine plan_pass2 rfl rfl ?_; simp only [List.getElem_toArray, List.getElem_cons_succ, List.getElem_cons_zero, Act.put, List.setIfInBounds_toArray, List.set_cons_zero, List.set_cons_succ]) | (refine plan_pass3 rfl rfl ?_; simp only [List.getElem_toArray, List.getElem_cons_succ, List.getElem_cons_zero, Act.put, List.setIfInBounds_toArray, List.set_cons_zero, List.set_cons_succ]) | (refine plan_take (v := ?_) rfl rfl ?_ ?_; rotate_left; (focus (intro w0; go_simp; try with_reducible rfl)); simp only [List.getElem_toArray, List.getElem_cons_succ, List.getElem_cons_zero, Act.put, List.setIfInBounds_toArray, List.set_cons_zero, List.set_cons_succ]) | fail )
  refine plan_nil ?_
  go_wp2
  go_returns
  have hsz2 : w.heap.size ≤ w1.heap.size := hsz
  refine ⟨⟨_, rfl⟩, EndAt.of (.inl h1) (setOf HB.out 0 _) ((HL.out.mono (f' := fun k => w.heap.size ≤ k) fun k a _ => a).keep ((Mod.refl (fun k => k = q) w1).setCell (.inl rfl) _) fun k a b => by omega) fun k hk _ => ⟨.inr hk, by omega⟩, (HM.out.mono (G := f) fun _ f => f.elim).setCell (.inl h1) _⟩
theorem ECrash_any (q : Nat) (f : Nat → Prop) (L : Life) (w : World) (h : EndAt w q f L) :
    Calls Try.prog 47 #[.pointer (some ⟨q, 0, none⟩)] w fun e w' => (∃ v, e = .returned v) ∧ EndAt w' q (fun k => f k ∨ w.heap.size ≤ k) L.next ∧ Mod f w w' := by
  have H := Lib.hid h
  clear h
  go_enter Try.func47, Try.ntmps47
  go_wp2_with fail
  refine (next_any q f L _ H.out).mono ?_; rintro e w1 ⟨⟨v, rfl⟩, hl, hm⟩
  have HL := Lib.hid hl
  have HM := Lib.hid hm
  clear hl hm
  go_wp2
  go_returns
  exact ⟨⟨_, rfl⟩, HL.out, HM.out⟩
end Go.Proofs.Ytidkapanpieflaa
