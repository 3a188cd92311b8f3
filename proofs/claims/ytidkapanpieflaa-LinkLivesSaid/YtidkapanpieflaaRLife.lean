/- The reference's life of a link (acequiaref29). -/
import Derived.Test.YtidkapanpieflaaLife2
import Derived.Test.YtidkapanpieflaaSndRel
namespace Go.Proofs.Ytidkapanpieflaa
open Go.RowKit
set_option linter.unusedVariables false
set_option linter.unusedSimpArgs false
structure RLife where
  node : Int
  up : Bool
  epoch : Int
  s : RefS
  r : RefR
def RLife.cells (L : RLife) (po pi : Nat) : Array Value := #[.int .i64 L.node, .bool L.up, .int .u32 L.epoch, .pointer (some ⟨po, 0, none⟩), .pointer (some ⟨pi, 0, none⟩)]
def RLifeAt (w : World) (p : Nat) (f : Nat → Prop) (L : RLife) : Prop :=
  (0 ≤ L.epoch ∧ L.epoch < 4294967296) ∧ (f p ∧ p < w.heap.size) ∧ ∃ (po pi : Nat) (fs fr : Nat → Prop), w.heap[p]? = some (.cells (L.cells po pi) 70 (0, 0)) ∧ RefSAt w po fs L.s ∧ RefRAt w pi fr L.r ∧ (∀ k, fs k → (f k ∧ k < w.heap.size) ∧ k ≠ p ∧ ¬ fr k) ∧ (∀ k, fr k → (f k ∧ k < w.heap.size) ∧ k ≠ p)
theorem RLifeAt.keep {w w' : World} {F f : Nat → Prop} {p : Nat} {L : RLife} (h : RLifeAt w p f L) (hm : Mod F w w') (hd : ∀ k, f k → ¬ F k) : RLifeAt w' p f L := by
  obtain ⟨h1, h2, po, pi, fs, fr, h3, h4, h5, h6, h7⟩ := h
  have hs := hm.size
  exact ⟨h1, ⟨h2.1, by omega⟩, po, pi, fs, fr, hm.keep h3 (hd p h2.1), h4.keep hm fun k hk => hd k (h6 k hk).1.1, h5.keep hm fun k hk => hd k (h7 k hk).1.1, fun k hk => ⟨⟨(h6 k hk).1.1, by have := (h6 k hk).1.2; omega⟩, (h6 k hk).2⟩, fun k hk => ⟨⟨(h7 k hk).1.1, by have := (h7 k hk).1.2; omega⟩, (h7 k hk).2⟩⟩
theorem RLifeAt.mono {w : World} {f f' : Nat → Prop} {p : Nat} {L : RLife} (h : RLifeAt w p f L) (hf : ∀ k, f k → k < w.heap.size → f' k) : RLifeAt w p f' L := by
  obtain ⟨h1, h2, po, pi, fs, fr, h3, h4, h5, h6, h7⟩ := h
  exact ⟨h1, ⟨hf p h2.1 h2.2, h2.2⟩, po, pi, fs, fr, h3, h4, h5, fun k hk => ⟨⟨hf k (h6 k hk).1.1 (h6 k hk).1.2, (h6 k hk).1.2⟩, (h6 k hk).2⟩, fun k hk => ⟨⟨hf k (h7 k hk).1.1 (h7 k hk).1.2, (h7 k hk).1.2⟩, (h7 k hk).2⟩⟩
theorem RLifeAt.drew {w : World} {f : Nat → Prop} {p : Nat} {L : RLife} (h : RLifeAt w p f L) : RLifeAt w.drew p f L := h.keep ((Mod.refl (fun _ => False) w).drew) fun _ _ f => f
/-- the parts may be given with what lies below the heap's end alone -/
theorem RLifeAt.of {w : World} {f : Nat → Prop} {p po pi : Nat} {fs fr : Nat → Prop} {L : RLife} (h1 : 0 ≤ L.epoch ∧ L.epoch < 4294967296) (h2 : f p) (h3 : w.heap[p]? = some (.cells (L.cells po pi) 70 (0, 0))) (h4 : RefSAt w po fs L.s) (h5 : RefRAt w pi fr L.r)
    (h6 : ∀ k, fs k → k < w.heap.size → f k ∧ k ≠ p ∧ ¬ fr k) (h7 : ∀ k, fr k → k < w.heap.size → f k ∧ k ≠ p) : RLifeAt w p f L :=
  ⟨h1, ⟨h2, lt_of_block h3⟩, po, pi, fun k => fs k ∧ k < w.heap.size, fun k => fr k ∧ k < w.heap.size, h3, h4.clip, h5.clip, fun k hk => ⟨⟨(h6 k hk.1 hk.2).1, hk.2⟩, (h6 k hk.1 hk.2).2.1, fun h => (h6 k hk.1 hk.2).2.2 h.1⟩, fun k hk => ⟨⟨(h7 k hk.1 hk.2).1, hk.2⟩, (h7 k hk.1 hk.2).2⟩⟩
def RLife.fresh (n : Int) (up : Bool) (ep : Int) : RLife := ⟨n, up, ep, ⟨0, 8, [], 0, 0⟩, ⟨0, 8, 0, []⟩⟩
theorem RNew_any (n : Int) (up : Bool) (ep : Int) (w : World) (h0 : 0 ≤ ep) (h1 : ep < 4294967296) :
    Calls Try.prog 37 #[.int .i64 n, .bool up, .int .u32 ep] w fun e w' => ∃ p, e = .returned (.pointer (some ⟨p, 0, none⟩)) ∧ RLifeAt w' p (fun k => w.heap.size ≤ k) (RLife.fresh n up ep) ∧ Mod (fun _ => False) w w' := by
  go_enter Try.func37, Try.ntmps37
  go_wp2_with fail
  refine (NewS_any 0 8 _ (by decide) (by decide)).mono ?_; rintro e w1 ⟨po, rfl, hs, hm⟩
  have HS := Lib.hid hs.clip
  have HM := Lib.hid hm
  clear hs hm
  go_wp2_with fail
  refine (NewR_any 0 8 _ (by decide) (by decide)).mono ?_; rintro e w2 ⟨pi, rfl, hr, hm⟩
  have HR := Lib.hid hr.clip
  have HS2 := Lib.hid (HS.out.keep hm fun _ _ f => f)
  have HM2 := Lib.hid (HM.out.trans hm fun _ f => f.elim)
  have hs1 := HM.out.size
  have hs2 := hm.size
  clear hr hm HS HM
  go_wp2
  go_returns
  have ha : Mod (fun _ => False) w2 (w2.alloc (.cells (RLife.cells (RLife.fresh n up ep) po pi) 70)) := (Mod.refl _ _).alloc _
  refine ⟨_, rfl, RLifeAt.of ⟨h0, h1⟩ (by show w.heap.size ≤ w2.heap.size; omega) (allocNew w2 _) (HS2.out.keep ha fun _ _ f => f) (HR.out.keep ha fun _ _ f => f) (fun k hk _ => ⟨hk.1, by omega, fun h => by omega⟩) (fun k hk _ => ⟨by omega, by omega⟩), HM2.out.trans ha fun _ f => f.elim⟩
def RLife.msg (L : RLife) (kind : Int) : MsgV := ⟨L.node, L.up, L.epoch, kind, L.r.rcv.next, 0, ⟨#[]⟩⟩
def RLife.body (L : RLife) (x : Pkt) : MsgV := ⟨L.node, L.up, L.epoch, 2, L.r.rcv.next, x.seq, x.body⟩
set_option maxRecDepth 100000 in
theorem RHello_any (p : Nat) (f : Nat → Prop) (L : RLife) (w : World) (h : RLifeAt w p f L) :
    Calls Try.prog 44 #[.pointer (some ⟨p, 0, none⟩)] w fun e w' => ∃ v, e = .returned v ∧ Row w' (fun k => w.heap.size ≤ k) 65 7 v 1 (MsgV.vals [L.msg 1]) ∧ Mod (fun _ => False) w w' := by
  obtain ⟨_, _, po, pi, fs, fr, hb, hs, hr, _, _⟩ := h
  have hS : w.drew.cell? ⟨p, 0, none⟩ = some (.int .i64 L.node) ∧ w.drew.cell? ⟨p, 1, none⟩ = some (.bool L.up) ∧ w.drew.cell? ⟨p, 2, none⟩ = some (.int .u32 L.epoch) ∧ w.drew.cell? ⟨p, 4, none⟩ = some (.pointer (some ⟨pi, 0, none⟩)) := ⟨cellOf hb 0, cellOf hb 1, cellOf hb 2, cellOf hb 4⟩
  have HR : Hid (RefRAt w.drew pi fr L.r) := Lib.hid (hr.keep ((Mod.refl (fun _ => False) w).drew) fun _ _ f => f)
  clear hb hs hr
  go_enter Try.func44, Try.ntmps44
  go_wp2_with fail
  refine wp_region_plan [] [(0, 0), (1, 0), (2, 0), (3, 1), (4, 0), (5, 0), (6, 0), (7, 1), (8, 0), (9, 0), (10, 0), (11, 1), (12, 0), (13, 0), (14, 0), (15, 1), (16, 2), (17, 0), (18, 2), (19, 0)] (fun w' : World => w'.cell? ⟨p, 0, none⟩ = some (.int .i64 L.node) ∧ w'.cell? ⟨p, 1, none⟩ = some (.bool L.up) ∧ w'.cell? ⟨p, 2, none⟩ = some (.int .u32 L.epoch) ∧ w'.cell? ⟨p, 4, none⟩ = some (.pointer (some ⟨pi, 0, none⟩))) (by kernel_rfl) (by kernel_rfl) (fun d _ _ _ _ h => by cases d <;> exact h) ?_
  repeat (first | (refine plan_skip rfl rfl ?_; simp only [List.getElem_toArray, List.getElem_cons_succ, List.getElem_cons_zero, Act.put, List.setIfInBounds_toArray, List.set_cons_zero, List.set_cons_succ]) | (refine plan_pass2 rfl rfl ?_; simp only [List.getElem_toArray, List.getElem_cons_succ, List.getElem_cons_zero, Act.put, List.setIfInBounds_toArray, List.set_cons_zero, List.set_cons_succ]) | (refine plan_pass3 rfl rfl ?_; simp only [List.getElem_toArray, List.getElem_cons_succ, List.getElem_cons_zero, Act.put, List.setIfInBounds_toArray, List.set_cons_zero, List.set_cons_succ]) | (refine plan_take (v := ?_) rfl rfl ?_ ?_; rotate_left; (focus (intro w0; go_simp; try with_reducible rfl)); simp only [List.getElem_toArray, List.getElem_cons_succ, List.getElem_cons_zero, Act.put, List.setIfInBounds_toArray, List.set_cons_zero, List.set_cons_succ]) | (refine plan_held (v := ?_) rfl rfl hS ?_ ?_; rotate_left; (focus (intro w0 hSw; (try dsimp only at hSw); go_split_ands; go_simp; try with_reducible rfl)); simp only [List.getElem_toArray, List.getElem_cons_succ, List.getElem_cons_zero, Act.put, List.setIfInBounds_toArray, List.set_cons_zero, List.set_cons_succ])  | (refine plan_skip1 rfl rfl hS ?_; simp only [List.getElem_toArray, List.getElem_cons_succ, List.getElem_cons_zero, Act.put, List.setIfInBounds_toArray, List.set_cons_zero, List.set_cons_succ]))
  (refine plan_do rfl rfl fun K hK => ?_; try simp only [List.getElem_toArray, List.getElem_cons_succ, List.getElem_cons_zero])
  go_simp
  refine (RefNext_any pi fr L.r _ HR.out).mono ?_; rintro e w' ⟨rfl, rfl⟩
  refine hK _ _ hS ?_
  clear hK K
  try simp only [List.getElem_toArray, List.getElem_cons_succ, List.getElem_cons_zero, Act.put, List.setIfInBounds_toArray, List.set_cons_zero, List.set_cons_succ]
  repeat (first | (refine plan_skip rfl rfl ?_; simp only [List.getElem_toArray, List.getElem_cons_succ, List.getElem_cons_zero, Act.put, List.setIfInBounds_toArray, List.set_cons_zero, List.set_cons_succ]) | (refine plan_pass2 rfl rfl ?_; simp only [List.getElem_toArray, List.getElem_cons_succ, List.getElem_cons_zero, Act.put, List.setIfInBounds_toArray, List.set_cons_zero, List.set_cons_succ]) | (refine plan_pass3 rfl rfl ?_; simp only [List.getElem_toArray, List.getElem_cons_succ, List.getElem_cons_zero, Act.put, List.setIfInBounds_toArray, List.set_cons_zero, List.set_cons_succ]) | (refine plan_take (v := ?_) rfl rfl ?_ ?_; rotate_left; (focus (intro w0; go_simp; try with_reducible rfl)); simp only [List.getElem_toArray, List.getElem_cons_succ, List.getElem_cons_zero, Act.put, List.setIfInBounds_toArray, List.set_cons_zero, List.set_cons_succ]) | fail )
  (refine plan_do rfl rfl fun K hK => ?_; (try simp only [List.getElem_toArray, List.getElem_cons_succ, List.getElem_cons_zero]); go_simp; refine hK _ _ ⟨allocCell _ hS.1, allocCell _ hS.2.1, allocCell _ hS.2.2.1, allocCell _ hS.2.2.2⟩ ?_; clear hK K; try simp only [List.getElem_toArray, List.getElem_cons_succ, List.getElem_cons_zero, Act.put, List.setIfInBounds_toArray, List.set_cons_zero, List.set_cons_succ])
  repeat (first | (refine plan_skip rfl rfl ?_; simp only [List.getElem_toArray, List.getElem_cons_succ, List.getElem_cons_zero, Act.put, List.setIfInBounds_toArray, List.set_cons_zero, List.set_cons_succ]) | (refine plan_pass2 rfl rfl ?_; simp only [List.getElem_toArray, List.getElem_cons_succ, List.getElem_cons_zero, Act.put, List.setIfInBounds_toArray, List.set_cons_zero, List.set_cons_succ]) | (refine plan_pass3 rfl rfl ?_; simp only [List.getElem_toArray, List.getElem_cons_succ, List.getElem_cons_zero, Act.put, List.setIfInBounds_toArray, List.set_cons_zero, List.set_cons_succ]) | (refine plan_take (v := ?_) rfl rfl ?_ ?_; rotate_left; (focus (intro w0; go_simp; try with_reducible rfl)); simp only [List.getElem_toArray, List.getElem_cons_succ, List.getElem_cons_zero, Act.put, List.setIfInBounds_toArray, List.set_cons_zero, List.set_cons_succ]) | fail )
  refine plan_nil ?_
  go_wp2
  go_returns
  refine ⟨_, rfl, Row.made (cur := (L.msg 1).cells) ?_ rfl (by unfold maxLen; omega) (by simp), ((Mod.refl _ _).alloc _).drew.drew⟩
  exact allocNewAt rfl
set_option maxRecDepth 100000 in
theorem ROpen_any (p : Nat) (f : Nat → Prop) (L : RLife) (w : World) (h : RLifeAt w p f L) :
    Calls Try.prog 51 #[.pointer (some ⟨p, 0, none⟩)] w fun e w' => e = .returned (.int .i64 ((L.s.l.length - L.s.done : Nat) : Int)) ∧ Mod (fun _ => False) w w' := by
  obtain ⟨_, _, po, pi, fs, fr, hb, hs, hr, _, _⟩ := h
  obtain ⟨hok, _, v, hbs, hrow⟩ := hs
  obtain ⟨a, cap, rfl, hn, hc, _⟩ := hrow.form
  have hd1 := hok.d1
  have hs1 := hok.s1
  have hl1 := hok.l1
  have hsub : IntKind.i64.wrap ((L.s.l.length : Int) - (L.s.done : Int)) = ((L.s.l.length - L.s.done : Nat) : Int) := by rw [IntWalk.i64_in _ (by omega)]; omega
  have hS : w.drew.cell? ⟨p, 3, none⟩ = some (.pointer (some ⟨po, 0, none⟩)) ∧ w.drew.cell? ⟨po, 2, none⟩ = some (.slice a L.s.l.length cap) ∧ w.drew.cell? ⟨po, 3, none⟩ = some (.int .i64 L.s.done) := ⟨cellOf hb 3, cellOf hbs 2, cellOf hbs 3⟩
  clear hb hbs hrow hr hok
  go_enter Try.func51, Try.ntmps51
  go_wp2_with fail
  refine wp_region_plan [] [(0, 0), (1, 0), (2, 0), (3, 1), (4, 0), (5, 0), (6, 1), (7, 0), (8, 0), (9, 0), (10, 0), (11, 1), (12, 0), (13, 0), (14, 1), (15, 0), (16, 0)] (fun w' : World => w'.cell? ⟨p, 3, none⟩ = some (.pointer (some ⟨po, 0, none⟩)) ∧ w'.cell? ⟨po, 2, none⟩ = some (.slice a L.s.l.length cap) ∧ w'.cell? ⟨po, 3, none⟩ = some (.int .i64 L.s.done)) (by kernel_rfl) (by kernel_rfl) (fun d _ _ _ _ h => by cases d <;> exact h) ?_
  repeat (first | (refine plan_skip rfl rfl ?_; simp only [List.getElem_toArray, List.getElem_cons_succ, List.getElem_cons_zero, Act.put, List.setIfInBounds_toArray, List.set_cons_zero, List.set_cons_succ]) | (refine plan_pass2 rfl rfl ?_; simp only [List.getElem_toArray, List.getElem_cons_succ, List.getElem_cons_zero, Act.put, List.setIfInBounds_toArray, List.set_cons_zero, List.set_cons_succ]) | (refine plan_pass3 rfl rfl ?_; simp only [List.getElem_toArray, List.getElem_cons_succ, List.getElem_cons_zero, Act.put, List.setIfInBounds_toArray, List.set_cons_zero, List.set_cons_succ]) | (refine plan_take (v := ?_) rfl rfl ?_ ?_; rotate_left; (focus (intro w0; go_simp; try with_reducible rfl)); simp only [List.getElem_toArray, List.getElem_cons_succ, List.getElem_cons_zero, Act.put, List.setIfInBounds_toArray, List.set_cons_zero, List.set_cons_succ]) | (refine plan_held (v := ?_) rfl rfl hS ?_ ?_; rotate_left; (focus (intro w0 hSw; (try dsimp only at hSw); go_split_ands; go_simp; try with_reducible rfl)); simp only [List.getElem_toArray, List.getElem_cons_succ, List.getElem_cons_zero, Act.put, List.setIfInBounds_toArray, List.set_cons_zero, List.set_cons_succ])  | (refine plan_skip1 rfl rfl hS ?_; simp only [List.getElem_toArray, List.getElem_cons_succ, List.getElem_cons_zero, Act.put, List.setIfInBounds_toArray, List.set_cons_zero, List.set_cons_succ]))
  refine plan_nil ?_
  try simp only [hsub]
  go_wp2
  go_returns
  exact ⟨rfl, (Mod.refl _ _).drew⟩
end Go.Proofs.Ytidkapanpieflaa
