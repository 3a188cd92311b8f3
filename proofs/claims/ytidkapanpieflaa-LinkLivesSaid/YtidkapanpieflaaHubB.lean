/- Hubs (package link): NewHub, Push, Epoch, Open, Drop: contracts. -/
import Derived.Test.YtidkapanpieflaaHubA
namespace Go.Proofs.Ytidkapanpieflaa
open Go.RowKit
set_option linter.unusedVariables false
set_option linter.unusedSimpArgs false
theorem LifeAt.sub {w : World} {f : Nat → Prop} {p : Nat} {L : Life} (h : LifeAt w p f L) : ∃ po fs, w.cell? ⟨p, 0, none⟩ = some (.int .i64 L.node) ∧ w.cell? ⟨p, 2, none⟩ = some (.int .u32 L.epoch) ∧ w.cell? ⟨p, 3, none⟩ = some (.pointer (some ⟨po, 0, none⟩)) ∧ SndAt w po fs L.out ∧ (∀ k, fs k → f k) ∧ (0 ≤ L.epoch ∧ L.epoch < 4294967296) ∧ p < w.heap.size ∧ f p ∧
    ∀ (w' : World) (s' : Snd), SndAt w' po (fun k => fs k ∨ w.heap.size ≤ k) s' → Mod fs w w' → LifeAt w' p (fun k => f k ∨ w.heap.size ≤ k) { L with out := s' } := by
  obtain ⟨h1, h2, po, pi, fs, fr, h3, h4, h5, h6, h7⟩ := h
  exact ⟨po, fs, cellOf h3 0, cellOf h3 2, cellOf h3 3, h4, fun k hk => (h6 k hk).1, h1, lt_of_block h3, h2, fun w' s' hs hm => LifeAt.outM h1 h2 (lt_of_block h3) h3 h5.clip (fun k hk => ⟨(h6 k hk).1, (h6 k hk).2.1, fun h => (h6 k hk).2.2 h.1⟩) (fun k hk => ⟨⟨(h7 k hk.1).1, hk.2⟩, (h7 k hk.1).2⟩) hs hm⟩
theorem eql_life (vb : Nat) (w : World) : (binOp .eql 105 (.pointer (some ⟨vb, 0, none⟩)) (.pointer none)).run Try.prog w = .ok (.bool false) w := by kernel_rfl
theorem zeroLife : ∀ w : World, (zeroValue 105).run Try.prog w = .ok (.pointer none) w := fun _ => by kernel_rfl
theorem zeroU32 : ∀ w : World, (zeroValue 24).run Try.prog w = .ok (.int .u32 0) w := fun _ => by kernel_rfl
section
variable {w : World} {hb km gm : Nat} {l : List Life} {G : Int → Option Int} {vbo : Int → Nat} {c : Clr}
theorem HubIn.lkNo (h : HubIn w hb l G km gm vbo c) {n : Int} (hn : hfind Life.node l n = none) : (Instr.lookup 112 (.map (some km)) (.int .i64 n) false).run Try.prog w = .ok (.pointer none) w := by
  have := h.kn.run_lookup (P := Try.prog) Try.underlying112 Try.underlying3 zeroLife n false
  unfold KV at this
  rw [hn] at this
  exact this
theorem HubIn.lkYes (h : HubIn w hb l G km gm vbo c) {n : Int} {L : Life} (hn : hfind Life.node l n = some L) : (Instr.lookup 112 (.map (some km)) (.int .i64 n) false).run Try.prog w = .ok (.pointer (some ⟨vbo n, 0, none⟩)) w := by
  have := h.kn.run_lookup (P := Try.prog) Try.underlying112 Try.underlying3 zeroLife n false
  unfold KV ptrV at this
  rw [hn] at this
  exact this
end
set_option maxRecDepth 100000 in
theorem NewHub_any (w : World) : Calls Try.prog 53 #[] w fun e w' => ∃ p, e = .returned (.pointer (some ⟨p, 0, none⟩)) ∧ HubAt w' (fun k => w.heap.size ≤ k) p [] (fun _ => none) ∧ Mod (fun _ => False) w w' := by
  have hmm := @run_makeMap Try.prog
  go_enter Try.func53, Try.ntmps53
  go_wp2
  go_ret
  have hm1 : Mod (fun _ => False) w (w.alloc (.map #[] 0)) := (Mod.refl _ _).alloc _
  have hm2 : Mod (fun _ => False) (w.alloc (.map #[] 0)) ((w.alloc (.map #[] 0)).alloc (.map #[] 0)) := (Mod.refl _ _).alloc _
  obtain ⟨W1, hW1⟩ : ∃ W1, W1 = w.alloc (.map #[] 0) := ⟨_, rfl⟩
  have hs1 : W1.heap.size = w.heap.size + 1 := by rw [hW1]; simp
  obtain ⟨W2, hW2⟩ : ∃ W2, W2 = W1.alloc (.map #[] 0) := ⟨_, rfl⟩
  have hs2 : W2.heap.size = w.heap.size + 2 := by rw [hW2]; simp [hs1]
  have k1 : KM W1 w.heap.size fun _ => none := hW1 ▸ KM.made w
  have k2 : KM W2 (w.heap.size + 1) fun _ => none := by rw [hW2, ← hs1]; exact KM.made W1
  rw [← hW1] at hm1 hm2
  rw [← hW2] at hm2
  have hm3 : Mod (fun _ => False) W2 (W2.alloc (.cells #[.map (some w.heap.size), .map (some (w.heap.size + 1))] 115)) := (Mod.refl _ _).alloc _
  have hB := Blk.new W2 115 [.map (some w.heap.size), .map (some (w.heap.size + 1))]
  rw [hs2] at hB
  refine ⟨w.heap.size + 2, ?_, ⟨w.heap.size, w.heap.size + 1, fun _ => 0, fun k => if k = w.heap.size + 2 then .inr 0 else if k = w.heap.size then .inr 1 else if k = w.heap.size + 1 then .inr 2 else .inr 9, ⟨?_, ?_, ?_, fun x hx => (by cases hx), List.Pairwise.nil, ?_, ?_, ?_, fun k e h => (by cases h), fun L hL => (by cases hL)⟩, fun k hk => ?_⟩, ?_⟩
  · first | rfl | (simp [hs1]) | skip
  · subst hW2; subst hW1; exact hB
  · exact ((k1.keep hm2 fun f => f).keep (by subst hW2; subst hW1; exact hm3) fun f => f)
  · exact (k2.keep (by subst hW2; subst hW1; exact hm3) fun f => f)
  · simp
  · simp
  · simp
  · show w.heap.size ≤ k
    by_cases h1 : k = w.heap.size + 2
    · omega
    · by_cases h2 : k = w.heap.size
      · omega
      · by_cases h3 : k = w.heap.size + 1
        · omega
        · simp [h1, h2, h3] at hk
  · subst hW2; subst hW1; exact (hm1.trans hm2 fun _ f => f.elim).trans hm3 fun _ f => f.elim
set_option maxRecDepth 100000 in
theorem HPush_any {w : World} {f : Nat → Prop} {hb : Nat} {l : List Life} {G : Int → Option Int} (h : HubAt w f hb l G) (n : Int) (b : ByteArray) :
    Calls Try.prog 59 #[.pointer (some ⟨hb, 0, none⟩), .int .i64 n, .string b] w fun e w' => e = .returned (.bool ((hfind Life.node l n).elim false fun L => L.out.full)) ∧ HubAt w' (fun k => f k ∨ w.heap.size ≤ k) hb ((hfind Life.node l n).elim l fun L => hput Life.node l { L with out := L.out.push b }) G ∧ Mod f w w' := by
  obtain ⟨km, gm, vbo, c, h, hcf⟩ := h
  have c0 := h.top.cell (j := 0) rfl
  cases hn : hfind Life.node l n with
  | none =>
    have hlk := h.lkNo hn
    have H : Hid (HubAt w (fun k => f k ∨ w.heap.size ≤ k) hb l G) := Lib.hid (HubAt.mono ⟨km, gm, vbo, c, h, hcf⟩ fun k hk _ => .inl hk)
    clear h hcf hn
    go_enter Try.func59, Try.ntmps59
    go_wp2
    go_ret
    exact ⟨rfl, H.out, Mod.refl _ _⟩
  | some L =>
    have hlk := h.lkYes hn
    have hne := eql_life (vbo n)
    obtain ⟨hLn, hL⟩ := h.life hn
    obtain ⟨po, fs, d0, d2, d3, hs, hfs, _, hpl, hfp, hset⟩ := hL.sub
    have HS := Lib.hid hs
    have HX : Hid (∀ (w' : World), SndAt w' po (fun k => fs k ∨ w.heap.size ≤ k) (L.out.push b) → Mod fs w w' → HubAt w' (fun k => f k ∨ w.heap.size ≤ k) hb (hput Life.node l { L with out := L.out.push b }) G ∧ Mod f w w') := Lib.hid fun w' a b' =>
      ⟨⟨km, gm, vbo, dyed c w (.inl n), h.set hn hLn (hset w' _ a b') (b'.mono fun k hk => .inl (hfs k hk)), fun k hk => by
        by_cases hl : w.heap.size ≤ k
        · exact .inr hl
        · rw [dyed_old (by omega)] at hk; exact .inl (hcf k hk)⟩, b'.mono fun k hk => .inl (hcf k (by rw [hfs k hk]; simp))⟩
    clear h hcf hn hs hset hL
    go_enter Try.func59, Try.ntmps59
    go_wp2_with fail
    refine (Push_any po fs L.out b _ HS.out).mono ?_; rintro e w1 ⟨rfl, hs, hm⟩
    have HY := Lib.hid (HX.out _ hs hm)
    clear hs hm
    go_wp2
    go_ret
    exact ⟨rfl, HY.out⟩
set_option maxRecDepth 100000 in
theorem HEpoch_any {w : World} {f : Nat → Prop} {hb : Nat} {l : List Life} {G : Int → Option Int} (h : HubAt w f hb l G) (n : Int) :
    Calls Try.prog 58 #[.pointer (some ⟨hb, 0, none⟩), .int .i64 n] w fun e w' => e = .returned (.tuple #[.int .u32 ((hfind Life.node l n).elim 0 Life.epoch), .bool (hfind Life.node l n).isSome]) ∧ w = w' := by
  obtain ⟨km, gm, vbo, c, h, hcf⟩ := h
  have c0 := h.top.cell (j := 0) rfl
  cases hn : hfind Life.node l n with
  | none =>
    have hlk := h.lkNo hn
    clear h hcf hn
    go_enter Try.func58, Try.ntmps58
    go_wp2
    go_ret2
    exact ⟨rfl, rfl⟩
  | some L =>
    have hlk := h.lkYes hn
    have hne := eql_life (vbo n)
    obtain ⟨hLn, hL⟩ := h.life hn
    obtain ⟨po, fs, d0, d2, d3, hs, hfs, _, hpl, hfp, hset⟩ := hL.sub
    clear h hcf hn hs hset hL
    go_enter Try.func58, Try.ntmps58
    go_wp2
    go_ret2
    exact ⟨rfl, rfl⟩
set_option maxRecDepth 100000 in
theorem HOpen_any {w : World} {f : Nat → Prop} {hb : Nat} {l : List Life} {G : Int → Option Int} (h : HubAt w f hb l G) (n : Int) :
    Calls Try.prog 61 #[.pointer (some ⟨hb, 0, none⟩), .int .i64 n] w fun e w' => e = .returned (.int .i64 ((hfind Life.node l n).elim 0 fun L => (L.out.bodies.length : Int))) ∧ w = w' := by
  obtain ⟨km, gm, vbo, c, h, hcf⟩ := h
  have c0 := h.top.cell (j := 0) rfl
  cases hn : hfind Life.node l n with
  | none =>
    have hlk := h.lkNo hn
    clear h hcf hn
    go_enter Try.func61, Try.ntmps61
    go_wp2
    go_ret
    exact ⟨rfl, rfl⟩
  | some L =>
    have hlk := h.lkYes hn
    have hne := eql_life (vbo n)
    obtain ⟨hLn, hL⟩ := h.life hn
    obtain ⟨po, fs, d0, d2, d3, hs, hfs, _, hpl, hfp, hset⟩ := hL.sub
    have HS := Lib.hid hs
    clear h hcf hn hs hset hL
    go_enter Try.func61, Try.ntmps61
    go_wp2_with fail
    refine (Open_any po fs L.out _ HS.out).mono ?_; rintro e w1 ⟨rfl, rfl⟩
    go_wp2
    go_ret
    exact ⟨rfl, rfl⟩
set_option maxRecDepth 100000 in
theorem HDrop_any {w : World} {f : Nat → Prop} {hb : Nat} {l : List Life} {G : Int → Option Int} (h : HubAt w f hb l G) (n : Int) :
    Calls Try.prog 54 #[.pointer (some ⟨hb, 0, none⟩), .int .i64 n] w fun e w' => e = .returned (.bool (hfind Life.node l n).isSome) ∧ HubAt w' f hb (hdel Life.node l n) ((hfind Life.node l n).elim G fun L => fun k => if k = n then some L.epoch else G k) ∧ Mod f w w' := by
  obtain ⟨km, gm, vbo, c, h, hcf⟩ := h
  have c0 := h.top.cell (j := 0) rfl
  have c1 := h.top.cell (j := 1) rfl
  cases hn : hfind Life.node l n with
  | none =>
    have hlk := h.lkNo hn
    have H : Hid (HubAt w f hb (hdel Life.node l n) G) := Lib.hid (by
      have e : hdel Life.node l n = l := filter_all fun y hy => by have := hfind_none.1 hn y hy; simpa using this
      rw [e]
      exact ⟨km, gm, vbo, c, h, hcf⟩)
    clear h hcf hn
    go_enter Try.func54, Try.ntmps54
    go_wp2
    go_ret
    exact ⟨rfl, H.out, Mod.refl _ _⟩
  | some L =>
    have hlk := h.lkYes hn
    have hne := eql_life (vbo n)
    obtain ⟨hLn, hL⟩ := h.life hn
    obtain ⟨po, fs, d0, d2, d3, hs, hfs, hep, hpl, hfp, hset⟩ := hL.sub
    have HH := Lib.hid h
    have HN := Lib.hid hn
    have HC := Lib.hid hcf
    have HEP := Lib.hid hep
    have hS : w.drew.cell? ⟨hb, 0, none⟩ = some (.map (some km)) ∧ w.drew.cell? ⟨hb, 1, none⟩ = some (.map (some gm)) ∧ w.drew.cell? ⟨vbo n, 2, none⟩ = some (.int .u32 L.epoch) ∧ KM w.drew km (KV vbo l) := ⟨c0, c1, d2, h.kn.keep (Mod.refl (fun _ => False) w).drew fun f => f⟩
    have HKV : Hid ((KV vbo l n).getD (.pointer none) = .pointer (some ⟨vbo n, 0, none⟩)) := Lib.hid (by unfold KV ptrV; rw [hn]; rfl)
    clear h hcf hn hs hset hL
    go_enter Try.func54, Try.ntmps54
    go_wp2_with fail
    refine wp_region_plan [14] [(0, 0), (1, 0), (2, 0), (3, 1), (4, 0), (5, 0), (6, 0), (7, 0), (8, 1), (9, 0), (10, 1), (11, 0), (12, 0), (13, 1), (14, 3)] (fun w' : World => w'.cell? ⟨hb, 0, none⟩ = some (.map (some km)) ∧ w'.cell? ⟨hb, 1, none⟩ = some (.map (some gm)) ∧ w'.cell? ⟨vbo n, 2, none⟩ = some (.int .u32 L.epoch) ∧ KM w' km (KV vbo l)) (by kernel_rfl) (by kernel_rfl) (fun d _ _ _ _ h => by cases d <;> exact h) ?_
    repeat (first | (refine plan_skip rfl rfl ?_; simp only [List.getElem_toArray, List.getElem_cons_succ, List.getElem_cons_zero, Act.put, List.setIfInBounds_toArray, List.set_cons_zero, List.set_cons_succ]) | (refine plan_pass2 rfl rfl ?_; simp only [List.getElem_toArray, List.getElem_cons_succ, List.getElem_cons_zero, Act.put, List.setIfInBounds_toArray, List.set_cons_zero, List.set_cons_succ]) | (refine plan_pass3 rfl rfl ?_; simp only [List.getElem_toArray, List.getElem_cons_succ, List.getElem_cons_zero, Act.put, List.setIfInBounds_toArray, List.set_cons_zero, List.set_cons_succ]) | (refine plan_take (v := ?_) rfl rfl ?_ ?_; rotate_left; (focus (intro w0; go_simp; try with_reducible rfl)); simp only [List.getElem_toArray, List.getElem_cons_succ, List.getElem_cons_zero, Act.put, List.setIfInBounds_toArray, List.set_cons_zero, List.set_cons_succ]) | (refine plan_held (v := ?_) rfl rfl hS ?_ ?_; rotate_left; (focus (intro w0 hSw; (try dsimp only at hSw); go_split_ands; go_simp; try with_reducible rfl)); simp only [List.getElem_toArray, List.getElem_cons_succ, List.getElem_cons_zero, Act.put, List.setIfInBounds_toArray, List.set_cons_zero, List.set_cons_succ])  | (refine plan_skip1 rfl rfl hS ?_; simp only [List.getElem_toArray, List.getElem_cons_succ, List.getElem_cons_zero, Act.put, List.setIfInBounds_toArray, List.set_cons_zero, List.set_cons_succ]))
    (refine plan_held (v := .pointer (some ⟨vbo n, 0, none⟩)) rfl rfl hS (fun w0 h0 => by rw [h0.2.2.2.exec_lookup (P := Try.prog) Try.underlying112 Try.underlying3 zeroLife rfl rfl rfl]; simp only [Bool.false_eq_true, if_false]; rw [HKV.out]) ?_; try simp only [List.getElem_toArray, List.getElem_cons_succ, List.getElem_cons_zero, Act.put, List.setIfInBounds_toArray, List.set_cons_zero, List.set_cons_succ])
    repeat (first | (refine plan_skip rfl rfl ?_; simp only [List.getElem_toArray, List.getElem_cons_succ, List.getElem_cons_zero, Act.put, List.setIfInBounds_toArray, List.set_cons_zero, List.set_cons_succ]) | (refine plan_pass2 rfl rfl ?_; simp only [List.getElem_toArray, List.getElem_cons_succ, List.getElem_cons_zero, Act.put, List.setIfInBounds_toArray, List.set_cons_zero, List.set_cons_succ]) | (refine plan_pass3 rfl rfl ?_; simp only [List.getElem_toArray, List.getElem_cons_succ, List.getElem_cons_zero, Act.put, List.setIfInBounds_toArray, List.set_cons_zero, List.set_cons_succ]) | (refine plan_take (v := ?_) rfl rfl ?_ ?_; rotate_left; (focus (intro w0; go_simp; try with_reducible rfl)); simp only [List.getElem_toArray, List.getElem_cons_succ, List.getElem_cons_zero, Act.put, List.setIfInBounds_toArray, List.set_cons_zero, List.set_cons_succ]) | (refine plan_held (v := ?_) rfl rfl hS ?_ ?_; rotate_left; (focus (intro w0 hSw; (try dsimp only at hSw); go_split_ands; go_simp; try with_reducible rfl)); simp only [List.getElem_toArray, List.getElem_cons_succ, List.getElem_cons_zero, Act.put, List.setIfInBounds_toArray, List.set_cons_zero, List.set_cons_succ])  | (refine plan_skip1 rfl rfl hS ?_; simp only [List.getElem_toArray, List.getElem_cons_succ, List.getElem_cons_zero, Act.put, List.setIfInBounds_toArray, List.set_cons_zero, List.set_cons_succ]))
    (refine plan_end rfl rfl rfl fun K hK => ?_; (try simp only [List.getElem_toArray, List.getElem_cons_succ, List.getElem_cons_zero]))
    refine wp_update_km (P := Try.prog) Try.underlying113 Try.underlying3 rfl (k := n) (v := .int .u32 L.epoch) rfl rfl rfl (HH.out.gn.keep (Mod.refl (fun _ => False) w).drew fun f => f) ?_
    intro w1 HG1 HM1
    refine hK _ _ ?_
    clear hK K
    try simp only [List.getElem_toArray, List.getElem_cons_succ, List.getElem_cons_zero, Act.put, List.setIfInBounds_toArray, List.set_cons_zero, List.set_cons_succ]
    repeat (first | (refine plan_skip rfl rfl ?_; simp only [List.getElem_toArray, List.getElem_cons_succ, List.getElem_cons_zero, Act.put, List.setIfInBounds_toArray, List.set_cons_zero, List.set_cons_succ]) | (refine plan_pass2 rfl rfl ?_; simp only [List.getElem_toArray, List.getElem_cons_succ, List.getElem_cons_zero, Act.put, List.setIfInBounds_toArray, List.set_cons_zero, List.set_cons_succ]) | (refine plan_pass3 rfl rfl ?_; simp only [List.getElem_toArray, List.getElem_cons_succ, List.getElem_cons_zero, Act.put, List.setIfInBounds_toArray, List.set_cons_zero, List.set_cons_succ]) | (refine plan_take (v := ?_) rfl rfl ?_ ?_; rotate_left; (focus (intro w0; go_simp; try with_reducible rfl)); simp only [List.getElem_toArray, List.getElem_cons_succ, List.getElem_cons_zero, Act.put, List.setIfInBounds_toArray, List.set_cons_zero, List.set_cons_succ]) | fail )
    refine plan_nil ?_
    have HM1' : Hid (Mod (fun k => k = gm) w w1) := Lib.hid (Mod.ofDrew HM1.out)
    have c0 : w1.cell? ⟨hb, 0, none⟩ = some (.map (some km)) := HM1'.out.cell (fun e => by have h1 := HH.out.f0; have h2 := HH.out.f2; rw [show hb = gm from e] at h1; rw [h1] at h2; cases h2) hS.1
    clear hS
    obtain ⟨w2, hdel, hk2, hm2⟩ := (HH.out.kn.keep HM1'.out fun e => by have h1 := HH.out.f1; have h2 := HH.out.f2; rw [show km = gm from e] at h1; rw [h1] at h2; cases h2).run_delete (P := Try.prog) (ty := 0) (u := 3) Try.underlying112 Try.underlying3 n
    have HK2 := Lib.hid hk2
    have HM2 := Lib.hid hm2
    clear hk2 hm2
    go_wp2
    go_ret
    obtain ⟨h1, h2⟩ := HH.out.drop HEP.out HG1.out HM1'.out HK2.out HM2.out
    exact ⟨rfl, ⟨km, gm, vbo, c, h1, HC.out⟩, h2.mono fun k hk => .inl (HC.out k (by rcases hk with e | e <;> rw [e] <;> decide))⟩
end Go.Proofs.Ytidkapanpieflaa
