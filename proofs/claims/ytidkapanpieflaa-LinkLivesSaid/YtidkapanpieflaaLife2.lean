/- A life of a link: what is heard, and a beat; a node's end. -/
import Derived.Test.YtidkapanpieflaaLife
namespace Go.Proofs.Ytidkapanpieflaa
open Go.RowKit
set_option linter.unusedVariables false
set_option linter.unusedSimpArgs false
structure MsgV.Ok (m : MsgV) : Prop where
  a0 : 0 ≤ m.ack
  a1 : m.ack < 4294967296
  s0 : 0 ≤ m.seq
  s1 : m.seq < 4294967296
  e0 : 0 ≤ m.epoch
  e1 : m.epoch < 4294967296
  n0 : -9223372036854775808 ≤ m.node
  n1 : m.node ≤ 9223372036854775807
  k0 : -9223372036854775808 ≤ m.kind
  k1 : m.kind ≤ 9223372036854775807
def Life.hear (L : Life) (m : MsgV) : List ByteArray × Life :=
  if m.kind = 2 then ((L.inn.take ⟨m.seq, m.body⟩).1, { L with out := L.out.ack m.ack, inn := (L.inn.take ⟨m.seq, m.body⟩).2 }) else ([], { L with out := L.out.ack m.ack })
set_option maxRecDepth 100000 in
theorem hear_any (p : Nat) (f : Nat → Prop) (L : Life) (m : MsgV) (w : World) (h : LifeAt w p f L) (hok : m.Ok) :
    Calls Try.prog 76 #[.pointer (some ⟨p, 0, none⟩), .agg m.cells] w fun e w' => ∃ v, e = .returned v ∧ Row w' (fun k => w.heap.size ≤ k) 9 1 v (L.hear m).1.length ((L.hear m).1.map .string) ∧ LifeAt w' p (fun k => f k ∨ w.heap.size ≤ k) (L.hear m).2 ∧ Mod f w w' := by
  obtain ⟨hep, ⟨hp, hpl⟩, po, pi, fs, fr, hb, hs, hr, h6, h7⟩ := h.mono (f' := fun k => f k ∧ k < w.heap.size) fun k h1 h2 => ⟨h1, h2⟩
  clear h
  obtain ⟨mn, mu, me, mk, ma, ms, mb⟩ := m
  have ha0 := hok.a0
  have ha1 := hok.a1
  have hs0 := hok.s0
  have hs1 := hok.s1
  simp only at ha0 ha1 hs0 hs1
  unfold MsgV.cells
  have c3 : w.cell? ⟨p, 3, none⟩ = some (.pointer (some ⟨po, 0, none⟩)) := cellOf hb 3
  have HB := Lib.hid hb
  have HS := Lib.hid hs
  have HR := Lib.hid hr
  have H6 := Lib.hid h6
  have H7 := Lib.hid h7
  clear hb hs hr h6 h7 hok
  go_enter Try.func76, Try.ntmps76
  go_wp2_with fail
  obtain ⟨wA, hwA⟩ : ∃ wA, wA = w.alloc (.cells #[.int .i64 mn, .bool mu, .int .u32 me, .int .i64 mk, .int .u32 ma, .int .u32 ms, .string mb] 65) := ⟨_, rfl⟩
  have hbA : wA.heap[w.heap.size]? = some (.cells #[.int .i64 mn, .bool mu, .int .u32 me, .int .i64 mk, .int .u32 ma, .int .u32 ms, .string mb] 65 (0, 0)) := hwA ▸ allocNew w _
  have hm : Mod (fun _ => False) w wA := hwA ▸ (Mod.refl _ _).alloc _
  have hsz : wA.heap.size = w.heap.size + 1 := by rw [hwA]; simp
  rw [← hwA]
  obtain ⟨pb, hpb⟩ : ∃ pb, pb = w.heap.size := ⟨_, rfl⟩
  rw [← hpb] at hbA ⊢
  have hS : wA.drew.cell? ⟨p, 3, none⟩ = some (.pointer (some ⟨po, 0, none⟩)) ∧ wA.drew.cell? ⟨pb, 4, none⟩ = some (.int .u32 ma) := ⟨hm.cell (fun f => f) c3, cellOf hbA 4⟩
  have HSA : Hid (SndAt wA.drew po fs L.out) := Lib.hid (HS.out.keep hm.drew fun _ _ f => f)
  have HRA : Hid (RcvAt wA.drew pi fr L.inn) := Lib.hid (HR.out.keep hm.drew fun _ _ f => f)
  have HBA : Hid (wA.drew.heap[p]? = _) := Lib.hid (hm.drew.keep HB.out fun f => f)
  have HPB : Hid (wA.drew.heap[pb]? = _) := Lib.hid hbA
  have HM : Hid (Mod (fun _ => False) w wA.drew) := Lib.hid hm.drew
  have HPE := Lib.hid hpb
  have HSZ : Hid (wA.drew.heap.size = w.heap.size + 1) := Lib.hid hsz
  clear hm hbA hwA c3 HS HR HB hpb hsz
  refine wp_region_plan [6] [(0, 0), (1, 0), (2, 0), (3, 1), (4, 0), (5, 1), (6, 3)] (fun w' : World => w'.cell? ⟨p, 3, none⟩ = some (.pointer (some ⟨po, 0, none⟩)) ∧ w'.cell? ⟨pb, 4, none⟩ = some (.int .u32 ma)) (by kernel_rfl) (by kernel_rfl) (fun d _ _ _ _ h => by cases d <;> exact h) ?_
  repeat (first | (refine plan_skip rfl rfl ?_; simp only [List.getElem_toArray, List.getElem_cons_succ, List.getElem_cons_zero, Act.put, List.setIfInBounds_toArray, List.set_cons_zero, List.set_cons_succ]) | (refine plan_pass2 rfl rfl ?_; simp only [List.getElem_toArray, List.getElem_cons_succ, List.getElem_cons_zero, Act.put, List.setIfInBounds_toArray, List.set_cons_zero, List.set_cons_succ]) | (refine plan_pass3 rfl rfl ?_; simp only [List.getElem_toArray, List.getElem_cons_succ, List.getElem_cons_zero, Act.put, List.setIfInBounds_toArray, List.set_cons_zero, List.set_cons_succ]) | (refine plan_take (v := ?_) rfl rfl ?_ ?_; rotate_left; (focus (intro w0; go_simp; try with_reducible rfl)); simp only [List.getElem_toArray, List.getElem_cons_succ, List.getElem_cons_zero, Act.put, List.setIfInBounds_toArray, List.set_cons_zero, List.set_cons_succ]) | (refine plan_held (v := ?_) rfl rfl hS ?_ ?_; rotate_left; (focus (intro w0 hSw; (try dsimp only at hSw); go_split_ands; go_simp; try with_reducible rfl)); simp only [List.getElem_toArray, List.getElem_cons_succ, List.getElem_cons_zero, Act.put, List.setIfInBounds_toArray, List.set_cons_zero, List.set_cons_succ])  | (refine plan_skip1 rfl rfl hS ?_; simp only [List.getElem_toArray, List.getElem_cons_succ, List.getElem_cons_zero, Act.put, List.setIfInBounds_toArray, List.set_cons_zero, List.set_cons_succ]))
  (refine plan_end rfl rfl rfl fun K hK => ?_; (try simp only [List.getElem_toArray, List.getElem_cons_succ, List.getElem_cons_zero]))
  go_simp
  refine (Ack_any po fs L.out ma _ HSA.out ha0 ha1).mono ?_; rintro e w3 ⟨rfl, hs, hm⟩
  have np : ¬ fs p := fun h => (H6.out p h).2.1 rfl
  have npb : ¬ fs pb := fun h => by have := (H6.out pb h).1.2; have := HPE.out; omega
  refine hK _ _ ?_
  clear hK K hS
  try simp only [List.getElem_toArray, List.getElem_cons_succ, List.getElem_cons_zero, Act.put, List.setIfInBounds_toArray, List.set_cons_zero, List.set_cons_succ]
  have HS3 := Lib.hid hs
  have HR3 : Hid (RcvAt w3 pi fr L.inn) := Lib.hid (HRA.out.keep hm fun k h1 h2 => (H6.out k h2).2.2 h1)
  have hb3 := hm.keep HBA.out np
  have hpb3 := hm.keep HPB.out npb
  have HM3 := Lib.hid hm
  have k3 : w3.cell? ⟨pb, 3, none⟩ = some (.int .i64 mk) := cellOf hpb3 3
  have HPB3 := Lib.hid hpb3
  have HB3 := Lib.hid hb3
  clear hs hm np npb hpb3 hb3 HSA HRA HBA HPB
  repeat (first | (refine plan_skip rfl rfl ?_; simp only [List.getElem_toArray, List.getElem_cons_succ, List.getElem_cons_zero, Act.put, List.setIfInBounds_toArray, List.set_cons_zero, List.set_cons_succ]) | (refine plan_pass2 rfl rfl ?_; simp only [List.getElem_toArray, List.getElem_cons_succ, List.getElem_cons_zero, Act.put, List.setIfInBounds_toArray, List.set_cons_zero, List.set_cons_succ]) | (refine plan_pass3 rfl rfl ?_; simp only [List.getElem_toArray, List.getElem_cons_succ, List.getElem_cons_zero, Act.put, List.setIfInBounds_toArray, List.set_cons_zero, List.set_cons_succ]) | (refine plan_take (v := ?_) rfl rfl ?_ ?_; rotate_left; (focus (intro w0; go_simp; try with_reducible rfl)); simp only [List.getElem_toArray, List.getElem_cons_succ, List.getElem_cons_zero, Act.put, List.setIfInBounds_toArray, List.set_cons_zero, List.set_cons_succ]) | fail )
  refine plan_nil ?_
  by_cases hk : mk = 2
  · have hkq : (mk == 2) = true := by simp [hk]
    have E1 : Hid (L.hear ⟨mn, mu, me, mk, ma, ms, mb⟩ = ((L.inn.take ⟨ms, mb⟩).1, { L with out := L.out.ack ma, inn := (L.inn.take ⟨ms, mb⟩).2 })) := Lib.hid (by unfold Life.hear; rw [if_pos hk])
    clear hk
    have c4 : w3.cell? ⟨p, 4, none⟩ = some (.pointer (some ⟨pi, 0, none⟩)) := cellOf HB3.out 4
    have k5 : w3.cell? ⟨pb, 5, none⟩ = some (.int .u32 ms) := cellOf HPB3.out 5
    have k6 : w3.cell? ⟨pb, 6, none⟩ = some (.string mb) := cellOf HPB3.out 6
    go_wp2_with fail
    have hS : w3.drew.cell? ⟨p, 4, none⟩ = some (.pointer (some ⟨pi, 0, none⟩)) ∧ w3.drew.cell? ⟨pb, 5, none⟩ = some (.int .u32 ms) ∧ w3.drew.cell? ⟨pb, 6, none⟩ = some (.string mb) := ⟨c4, k5, k6⟩
    clear c4 k3 k5 k6
    refine wp_region_plan [] [(0, 0), (1, 0), (2, 0), (3, 1), (4, 0), (5, 1), (6, 0), (7, 1), (8, 0), (9, 2), (10, 0)] (fun w' : World => w'.cell? ⟨p, 4, none⟩ = some (.pointer (some ⟨pi, 0, none⟩)) ∧ w'.cell? ⟨pb, 5, none⟩ = some (.int .u32 ms) ∧ w'.cell? ⟨pb, 6, none⟩ = some (.string mb)) (by kernel_rfl) (by kernel_rfl) (fun d _ _ _ _ h => by cases d <;> exact h) ?_
    repeat (first | (refine plan_skip rfl rfl ?_; simp only [List.getElem_toArray, List.getElem_cons_succ, List.getElem_cons_zero, Act.put, List.setIfInBounds_toArray, List.set_cons_zero, List.set_cons_succ]) | (refine plan_pass2 rfl rfl ?_; simp only [List.getElem_toArray, List.getElem_cons_succ, List.getElem_cons_zero, Act.put, List.setIfInBounds_toArray, List.set_cons_zero, List.set_cons_succ]) | (refine plan_pass3 rfl rfl ?_; simp only [List.getElem_toArray, List.getElem_cons_succ, List.getElem_cons_zero, Act.put, List.setIfInBounds_toArray, List.set_cons_zero, List.set_cons_succ]) | (refine plan_take (v := ?_) rfl rfl ?_ ?_; rotate_left; (focus (intro w0; go_simp; try with_reducible rfl)); simp only [List.getElem_toArray, List.getElem_cons_succ, List.getElem_cons_zero, Act.put, List.setIfInBounds_toArray, List.set_cons_zero, List.set_cons_succ]) | (refine plan_held (v := ?_) rfl rfl hS ?_ ?_; rotate_left; (focus (intro w0 hSw; (try dsimp only at hSw); go_split_ands; go_simp; try with_reducible rfl)); simp only [List.getElem_toArray, List.getElem_cons_succ, List.getElem_cons_zero, Act.put, List.setIfInBounds_toArray, List.set_cons_zero, List.set_cons_succ])  | (refine plan_skip1 rfl rfl hS ?_; simp only [List.getElem_toArray, List.getElem_cons_succ, List.getElem_cons_zero, Act.put, List.setIfInBounds_toArray, List.set_cons_zero, List.set_cons_succ]))
    have HQ : Hid ((⟨ms, mb⟩ : Pkt).val = .agg #[.int .u32 ms, .string mb]) := Lib.hid rfl
    (refine plan_do rfl rfl fun K hK => ?_; try simp only [List.getElem_toArray, List.getElem_cons_succ, List.getElem_cons_zero])
    go_simp
    rw [← HQ.out]
    refine (Take_any pi fr L.inn ⟨ms, mb⟩ _ (HR3.out.keep ((Mod.refl (fun _ => False) w3).drew) fun _ _ f => f) hs0 hs1 (fun k hk => Nat.lt_of_lt_of_le (Nat.lt_of_lt_of_le (H7.out k hk).1.2 HM.out.size) HM3.out.size)).mono ?_; rintro e w5 ⟨v5, rfl, hv5, hr5, hm5⟩
    have np3 : ¬ fr p := fun h => (H7.out p h).2 rfl
    have npb : ¬ fr pb := fun h => by have := (H7.out pb h).1.2; have := HPE.out; omega
    refine hK _ _ ⟨hm5.cell np3 hS.1, hm5.cell npb hS.2.1, hm5.cell npb hS.2.2⟩ ?_
    clear hK K hS
    try simp only [List.getElem_toArray, List.getElem_cons_succ, List.getElem_cons_zero, Act.put, List.setIfInBounds_toArray, List.set_cons_zero, List.set_cons_succ]
    replace hm5 := Mod.ofDrew hm5
    have HV5 := Lib.hid hv5
    have HR5 := Lib.hid hr5
    have HM5 := Lib.hid hm5
    clear hv5 hr5 hm5
    repeat (first | (refine plan_skip rfl rfl ?_; simp only [List.getElem_toArray, List.getElem_cons_succ, List.getElem_cons_zero, Act.put, List.setIfInBounds_toArray, List.set_cons_zero, List.set_cons_succ]) | (refine plan_pass2 rfl rfl ?_; simp only [List.getElem_toArray, List.getElem_cons_succ, List.getElem_cons_zero, Act.put, List.setIfInBounds_toArray, List.set_cons_zero, List.set_cons_succ]) | (refine plan_pass3 rfl rfl ?_; simp only [List.getElem_toArray, List.getElem_cons_succ, List.getElem_cons_zero, Act.put, List.setIfInBounds_toArray, List.set_cons_zero, List.set_cons_succ]) | (refine plan_take (v := ?_) rfl rfl ?_ ?_; rotate_left; (focus (intro w0; go_simp; try with_reducible rfl)); simp only [List.getElem_toArray, List.getElem_cons_succ, List.getElem_cons_zero, Act.put, List.setIfInBounds_toArray, List.set_cons_zero, List.set_cons_succ]) | fail )
    refine plan_nil ?_
    go_wp2
    go_returns
    rw [E1.out]
    have hsz := HSZ.out
    have h3 := HM3.out.size
    refine ⟨_, rfl, HV5.out.mono fun k hk => by have : w3.heap.size ≤ k := hk; omega, ⟨hep, .inl hp, po, pi, fun k => (fs k ∨ wA.drew.heap.size ≤ k) ∧ k < w3.heap.size, fr, HM5.out.keep HB3.out np3, HS3.out.clip.keep HM5.out fun k h1 h2 => ?_, HR5.out, fun k hk => ?_, fun k hk => ⟨.inl (H7.out k hk).1.1, (H7.out k hk).2⟩⟩, ?_⟩
    · rcases h1.1 with h | h
      · exact (H6.out k h).2.2 h2
      · have := (H7.out k h2).1.2; omega
    · rcases hk.1 with h | h
      · exact ⟨.inl (H6.out k h).1.1, (H6.out k h).2⟩
      · exact ⟨.inr (by omega), by omega, fun h2 => by have := (H7.out k h2).1.2; omega⟩
    · exact (HM.out.mono (G := f) fun _ f => f.elim).trans ((HM3.out.mono (G := f) fun k hk => .inl (H6.out k hk).1.1).trans HM5.out fun k hk => .inl (H7.out k hk).1.1) fun k hk => .inl hk
  · have hkq : (mk == 2) = false := by simpa using hk
    have E1 : Hid (L.hear ⟨mn, mu, me, mk, ma, ms, mb⟩ = ([], { L with out := L.out.ack ma })) := Lib.hid (by unfold Life.hear; rw [if_neg hk])
    have hk' : ¬ mk = 2 := hk
    go_wp2
    go_returns
    rw [E1.out]
    have hsz := HSZ.out
    have h3 := HM3.out.size
    refine ⟨_, rfl, Row.nil _ _ _ _, ⟨hep, .inl hp, po, pi, fun k => (fs k ∨ wA.drew.heap.size ≤ k) ∧ k < w3.heap.size, fr, HB3.out, HS3.out.clip, HR3.out, fun k hk => ?_, fun k hk => ⟨.inl (H7.out k hk).1.1, (H7.out k hk).2⟩⟩, ?_⟩
    · rcases hk.1 with h | h
      · exact ⟨.inl (H6.out k h).1.1, (H6.out k h).2⟩
      · exact ⟨.inr (by omega), by omega, fun h2 => by have := (H7.out k h2).1.2; omega⟩
    · exact (HM.out.mono (G := f) fun _ f => f.elim).trans (HM3.out.mono (G := f) fun k hk => .inl (H6.out k hk).1.1) fun k hk => .inl hk
end Go.Proofs.Ytidkapanpieflaa
