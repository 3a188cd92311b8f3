/- The reference's sender: Push, Send, Again, Ack. -/
import Derived.Test.YtidkapanpieflaaRefS
namespace Go.Proofs.Ytidkapanpieflaa
open Go.RowKit
set_option linter.unusedVariables false
set_option linter.unusedSimpArgs false
def RefS.free (s : RefS) : Bool := decide (s.l.length - s.done < 4096)
def RefS.push (s : RefS) (b : ByteArray) : RefS := if s.l.length - s.done < 4096 then { s with l := s.l ++ [b] } else s
set_option maxRecDepth 100000 in
theorem RefPush_any (p : Nat) (f : Nat → Prop) (s : RefS) (b : ByteArray) (w : World) (h : RefSAt w p f s) (hsm : s.l.length < 1099511627776) :
    Calls Try.prog 30 #[.pointer (some ⟨p, 0, none⟩), .string b] w fun e w' => e = .returned (.bool s.free) ∧ RefSAt w' p (fun k => f k ∨ w.heap.size ≤ k) (s.push b) ∧ Mod f w w' := by
  obtain ⟨hok, hp, v, hb, hr⟩ := h
  obtain ⟨a, cap, rfl, hn, hc, hg⟩ := hr.form
  have c2 : w.cell? ⟨p, 2, none⟩ = some (.slice a s.l.length cap) := cellOf hb 2
  have c3 : w.cell? ⟨p, 3, none⟩ = some (.int .i64 s.done) := cellOf hb 3
  have f2 : w.frozen? ⟨p, 2, none⟩ = false := freeOf hb 2
  have HR := Lib.hid hr
  have HB := Lib.hid hb
  have d1 := hok.d1
  have s1 := hok.s1
  obtain ⟨d, hd⟩ : ∃ d, s.l.length - s.done = d := ⟨_, rfl⟩
  have hw : IntKind.i64.wrap ((s.l.length : Int) - (s.done : Int)) = (d : Int) := by rw [IntWalk.i64_in _ (by omega)]; omega
  have hS : w.drew.cell? ⟨p, 2, none⟩ = some (.slice a s.l.length cap) ∧ w.drew.cell? ⟨p, 3, none⟩ = some (.int .i64 s.done) := ⟨c2, c3⟩
  have HD := Lib.hid hd
  clear hr hb hg hd
  by_cases hl : d < 4096
  · have hdec : decide ((4096 : Int) ≤ (d : Int)) = false := by simp; omega
    have hcap : cap ≤ 9223372036854775807 := by unfold maxLen at hc; omega
    have ef : s.free = true := by unfold RefS.free; rw [HD.out]; simpa using hl
    have ep : s.push b = { s with l := s.l ++ [b] } := by unfold RefS.push; rw [if_pos (by rw [HD.out]; exact hl)]
    have EP := Lib.hid ep
    clear ep
    go_enter Try.func30, Try.ntmps30
    go_wp2
    refine wp_region_plan [] [(0, 0), (1, 0), (2, 0), (3, 1), (4, 0), (5, 0), (6, 0), (7, 0), (8, 1), (9, 0), (10, 0)] (fun w' : World => w'.cell? ⟨p, 2, none⟩ = some (.slice a s.l.length cap) ∧ w'.cell? ⟨p, 3, none⟩ = some (.int .i64 s.done)) (by kernel_rfl) (by kernel_rfl) (fun d _ _ _ _ h => by cases d <;> exact h) ?_
    repeat (first | (refine plan_skip rfl rfl ?_; simp only [List.getElem_toArray, List.getElem_cons_succ, List.getElem_cons_zero, Act.put, List.setIfInBounds_toArray, List.set_cons_zero, List.set_cons_succ]) | (refine plan_pass2 rfl rfl ?_; simp only [List.getElem_toArray, List.getElem_cons_succ, List.getElem_cons_zero, Act.put, List.setIfInBounds_toArray, List.set_cons_zero, List.set_cons_succ]) | (refine plan_pass3 rfl rfl ?_; simp only [List.getElem_toArray, List.getElem_cons_succ, List.getElem_cons_zero, Act.put, List.setIfInBounds_toArray, List.set_cons_zero, List.set_cons_succ]) | (refine plan_take (v := ?_) rfl rfl ?_ ?_; rotate_left; (focus (intro w0; go_simp; try with_reducible rfl)); simp only [List.getElem_toArray, List.getElem_cons_succ, List.getElem_cons_zero, Act.put, List.setIfInBounds_toArray, List.set_cons_zero, List.set_cons_succ]) | (refine plan_held (v := ?_) rfl rfl hS ?_ ?_; rotate_left; (focus (intro w0 hSw; (try dsimp only at hSw); go_split_ands; go_simp; try with_reducible rfl)); simp only [List.getElem_toArray, List.getElem_cons_succ, List.getElem_cons_zero, Act.put, List.setIfInBounds_toArray, List.set_cons_zero, List.set_cons_succ])  | (refine plan_skip1 rfl rfl hS ?_; simp only [List.getElem_toArray, List.getElem_cons_succ, List.getElem_cons_zero, Act.put, List.setIfInBounds_toArray, List.set_cons_zero, List.set_cons_succ]))
    refine plan_nil ?_
    clear hS
    go_wp2_with (at_builtin; refine wpList_append_one Try.elStr rfl (.tmp 20) (.tmp 22) rfl #[.string b] f _ _ _ (HR.out.alloc _).drew _ (allocNew w _) rfl rfl rfl (by simp [Value.oneCell']) (by omega) (by unfold maxLen; omega) ?_)
    intro v1 w1 hr1 hm1
    obtain ⟨a1, cap1, rfl, hn1, hc1, hg1⟩ := hr1.form
    clear hg1
    replace hm1 := Mod.allocDrew hm1
    have hb1 := hm1.keep HB.out (HR.out.ne HB.out (by decide))
    have c2 : w1.cell? ⟨p, 2, none⟩ = some (.slice a s.l.length cap) := cellOf hb1 2
    have f2 : w1.frozen? ⟨p, 2, none⟩ = false := freeOf hb1 2
    have HB1 := Lib.hid hb1
    have HR1 := Lib.hid hr1
    have HM1 := Lib.hid hm1
    have lt := lt_of_block hb1
    clear hr1 hm1 hb1
    go_wp2
    go_ret
    refine ⟨by rw [ef]; rfl, ?_, (HM1.out.row HR.out).setCell (.inl hp) _⟩
    rw [EP.out]
    refine ⟨⟨hok.f0, hok.f1, by simp; omega, hok.d1, by have := hok.s1; simp; omega, hok.s2, hok.w0, hok.w1⟩, .inl hp, _, setOf HB1.out 2 _, ?_⟩
    have := (HR1.out.mono (f' := fun k => f k ∨ w.heap.size ≤ k) fun k hk => hk.imp id (fun h => by omega)).setFar (p := ⟨p, 2, none⟩) (HR1.out.ne HB1.out (by decide)) (.slice a1 (s.l.length + 1) cap1)
    simpa using this
  · have hdec : decide ((4096 : Int) ≤ (d : Int)) = true := by simp; omega
    have ef : s.free = false := by unfold RefS.free; rw [HD.out]; simpa using hl
    have ep : s.push b = s := by unfold RefS.push; rw [if_neg (by rw [HD.out]; exact hl)]
    go_enter Try.func30, Try.ntmps30
    go_wp2
    refine wp_region_plan [] [(0, 0), (1, 0), (2, 0), (3, 1), (4, 0), (5, 0), (6, 0), (7, 0), (8, 1), (9, 0), (10, 0)] (fun w' : World => w'.cell? ⟨p, 2, none⟩ = some (.slice a s.l.length cap) ∧ w'.cell? ⟨p, 3, none⟩ = some (.int .i64 s.done)) (by kernel_rfl) (by kernel_rfl) (fun d _ _ _ _ h => by cases d <;> exact h) ?_
    repeat (first | (refine plan_skip rfl rfl ?_; simp only [List.getElem_toArray, List.getElem_cons_succ, List.getElem_cons_zero, Act.put, List.setIfInBounds_toArray, List.set_cons_zero, List.set_cons_succ]) | (refine plan_pass2 rfl rfl ?_; simp only [List.getElem_toArray, List.getElem_cons_succ, List.getElem_cons_zero, Act.put, List.setIfInBounds_toArray, List.set_cons_zero, List.set_cons_succ]) | (refine plan_pass3 rfl rfl ?_; simp only [List.getElem_toArray, List.getElem_cons_succ, List.getElem_cons_zero, Act.put, List.setIfInBounds_toArray, List.set_cons_zero, List.set_cons_succ]) | (refine plan_take (v := ?_) rfl rfl ?_ ?_; rotate_left; (focus (intro w0; go_simp; try with_reducible rfl)); simp only [List.getElem_toArray, List.getElem_cons_succ, List.getElem_cons_zero, Act.put, List.setIfInBounds_toArray, List.set_cons_zero, List.set_cons_succ]) | (refine plan_held (v := ?_) rfl rfl hS ?_ ?_; rotate_left; (focus (intro w0 hSw; (try dsimp only at hSw); go_split_ands; go_simp; try with_reducible rfl)); simp only [List.getElem_toArray, List.getElem_cons_succ, List.getElem_cons_zero, Act.put, List.setIfInBounds_toArray, List.set_cons_zero, List.set_cons_succ])  | (refine plan_skip1 rfl rfl hS ?_; simp only [List.getElem_toArray, List.getElem_cons_succ, List.getElem_cons_zero, Act.put, List.setIfInBounds_toArray, List.set_cons_zero, List.set_cons_succ]))
    refine plan_nil ?_
    clear hS
    go_wp2
    go_ret
    refine ⟨by rw [ef]; rfl, ?_, (Mod.refl _ _).drew⟩
    rw [ep]
    exact ⟨hok, .inl hp, _, HB.out, HR.out.mono fun k hk => .inl hk⟩
def RefS.again (s : RefS) : List Pkt := s.pkts s.done (s.sent - s.done)
theorem RefAgain_any (p : Nat) (f : Nat → Prop) (s : RefS) (w : World) (h : RefSAt w p f s) :
    Calls Try.prog 33 #[.pointer (some ⟨p, 0, none⟩)] w fun e w' => ∃ v, e = .returned v ∧ Row w' (fun k => w.heap.size ≤ k) 36 2 v s.again.length (Pkt.vals s.again) ∧ Mod (fun _ => False) w w' := by
  have h0 := Lib.hid h
  obtain ⟨hok, hp, v, hb, hr⟩ := h
  have c3 : w.cell? ⟨p, 3, none⟩ = some (.int .i64 s.done) := cellOf hb 3
  have c4 : w.cell? ⟨p, 4, none⟩ = some (.int .i64 s.sent) := cellOf hb 4
  have b1 := hok.s1
  have b2 := hok.d1
  have e1 : s.again.length = s.sent - s.done := by simp [RefS.again, RefS.pkts]
  clear hb hr
  have E1 := Lib.hid e1
  clear e1
  have hS : w.drew.cell? ⟨p, 3, none⟩ = some (.int .i64 s.done) ∧ w.drew.cell? ⟨p, 4, none⟩ = some (.int .i64 s.sent) := ⟨c3, c4⟩
  go_enter Try.func33, Try.ntmps33
  go_wp2
  refine wp_region_plan [9] [(0, 0), (1, 0), (2, 0), (3, 0), (4, 1), (5, 0), (6, 0), (7, 0), (8, 1), (9, 3), (10, 0)] (fun w' : World => w'.cell? ⟨p, 3, none⟩ = some (.int .i64 s.done) ∧ w'.cell? ⟨p, 4, none⟩ = some (.int .i64 s.sent)) (by kernel_rfl) (by kernel_rfl) (fun d _ _ _ _ h => by cases d <;> exact h) ?_
  repeat (first | (refine plan_skip rfl rfl ?_; simp only [List.getElem_toArray, List.getElem_cons_succ, List.getElem_cons_zero, Act.put, List.setIfInBounds_toArray, List.set_cons_zero, List.set_cons_succ]) | (refine plan_pass2 rfl rfl ?_; simp only [List.getElem_toArray, List.getElem_cons_succ, List.getElem_cons_zero, Act.put, List.setIfInBounds_toArray, List.set_cons_zero, List.set_cons_succ]) | (refine plan_pass3 rfl rfl ?_; simp only [List.getElem_toArray, List.getElem_cons_succ, List.getElem_cons_zero, Act.put, List.setIfInBounds_toArray, List.set_cons_zero, List.set_cons_succ]) | (refine plan_take (v := ?_) rfl rfl ?_ ?_; rotate_left; (focus (intro w0; go_simp; try with_reducible rfl)); simp only [List.getElem_toArray, List.getElem_cons_succ, List.getElem_cons_zero, Act.put, List.setIfInBounds_toArray, List.set_cons_zero, List.set_cons_succ]) | (refine plan_held (v := ?_) rfl rfl hS ?_ ?_; rotate_left; (focus (intro w0 hSw; (try dsimp only at hSw); go_split_ands; go_simp; try with_reducible rfl)); simp only [List.getElem_toArray, List.getElem_cons_succ, List.getElem_cons_zero, Act.put, List.setIfInBounds_toArray, List.set_cons_zero, List.set_cons_succ])  | (refine plan_skip1 rfl rfl hS ?_; simp only [List.getElem_toArray, List.getElem_cons_succ, List.getElem_cons_zero, Act.put, List.setIfInBounds_toArray, List.set_cons_zero, List.set_cons_succ]))
  refine plan_end rfl rfl rfl fun K hK => ?_
  (try simp only [List.getElem_toArray, List.getElem_cons_succ, List.getElem_cons_zero])
  go_simp
  refine (from_any p f s s.done s.sent w.drew h0.out b2 b1).mono ?_; rintro e w2 ⟨v2, rfl, hr2, hM2⟩
  refine hK _ _ ?_
  clear hK K
  try simp only [List.getElem_toArray, List.getElem_cons_succ, List.getElem_cons_zero, Act.put, List.setIfInBounds_toArray, List.set_cons_zero, List.set_cons_succ]
  have HR2 := Lib.hid hr2
  have HM2 := Lib.hid hM2
  clear hr2 hM2 hS
  repeat (first | (refine plan_skip rfl rfl ?_; simp only [List.getElem_toArray, List.getElem_cons_succ, List.getElem_cons_zero, Act.put, List.setIfInBounds_toArray, List.set_cons_zero, List.set_cons_succ]) | (refine plan_pass2 rfl rfl ?_; simp only [List.getElem_toArray, List.getElem_cons_succ, List.getElem_cons_zero, Act.put, List.setIfInBounds_toArray, List.set_cons_zero, List.set_cons_succ]) | (refine plan_pass3 rfl rfl ?_; simp only [List.getElem_toArray, List.getElem_cons_succ, List.getElem_cons_zero, Act.put, List.setIfInBounds_toArray, List.set_cons_zero, List.set_cons_succ]) | (refine plan_take (v := ?_) rfl rfl ?_ ?_; rotate_left; (focus (intro w0; go_simp; try with_reducible rfl)); simp only [List.getElem_toArray, List.getElem_cons_succ, List.getElem_cons_zero, Act.put, List.setIfInBounds_toArray, List.set_cons_zero, List.set_cons_succ]) | fail )
  refine plan_nil ?_
  go_wp2
  go_ret
  refine ⟨v2, rfl, ?_, Mod.ofDrew HM2.out⟩
  rw [E1.out]
  exact HR2.out
def RefS.bound (s : RefS) : Nat := min (s.done + s.wide) s.l.length
def RefS.send (s : RefS) : RefS := { s with sent := s.bound }
def RefS.news (s : RefS) : List Pkt := s.pkts s.sent (s.bound - s.sent)
theorem refsend_end (p : Nat) (f : Nat → Prop) (s : RefS) (m : Nat) (w : World) (v : Value) (hok : s.Ok) (hp : f p) (hr : Row w f 9 1 v s.l.length (s.l.map .string))
    (hb : w.heap[p]? = some (.cells #[.int .u32 s.first, .int .i64 s.wide, v, .int .i64 s.done, .int .i64 s.sent] 56 (0, 0))) (h1 : s.sent ≤ m) (h2 : m ≤ s.l.length) (h3 : m ≤ s.done + s.wide) :
    ∃ W1, (w.setCell ⟨p, 4, none⟩ (.int .i64 m)).drew = W1 ∧ RefSAt W1 p f { s with sent := m } ∧ Mod f w W1 := by
  have hb1 := setOf hb 4 (.int .i64 m)
  exact ⟨_, rfl, ⟨⟨hok.f0, hok.f1, hok.l1, Nat.le_trans hok.d1 h1, h2, h3, hok.w0, hok.w1⟩, hp, _, hb1, hr.setFar (hr.ne hb (by decide)) _⟩, ((Mod.refl _ _).setCell (.inl hp) _).drew⟩
set_option maxRecDepth 100000 in
theorem RefSend_any (p : Nat) (f : Nat → Prop) (s : RefS) (w : World) (h : RefSAt w p f s) :
    Calls Try.prog 32 #[.pointer (some ⟨p, 0, none⟩)] w fun e w' => ∃ v, e = .returned v ∧ Row w' (fun k => w.heap.size ≤ k) 36 2 v s.news.length (Pkt.vals s.news) ∧ RefSAt w' p f s.send ∧ Mod f w w' := by
  obtain ⟨hok, hp, v, hb, hr⟩ := h
  obtain ⟨a, cap, rfl, hn, hc, hg⟩ := hr.form
  have c1 : w.cell? ⟨p, 1, none⟩ = some (.int .i64 s.wide) := cellOf hb 1
  have c2 : w.cell? ⟨p, 2, none⟩ = some (.slice a s.l.length cap) := cellOf hb 2
  have c3 : w.cell? ⟨p, 3, none⟩ = some (.int .i64 s.done) := cellOf hb 3
  have c4 : w.cell? ⟨p, 4, none⟩ = some (.int .i64 s.sent) := cellOf hb 4
  have f4 : w.frozen? ⟨p, 4, none⟩ = false := freeOf hb 4
  have HR := Lib.hid hr
  have HB := Lib.hid hb
  have d1 := hok.d1
  have s1 := hok.s1
  have s2 := hok.s2
  have w1 := hok.w1
  have l1 := hok.l1
  clear hr hb hg
  obtain ⟨m, hm⟩ : ∃ m, m = s.bound := ⟨_, rfl⟩
  have hm0 : m = min (s.done + s.wide) s.l.length := hm
  have e1 : s.send = { s with sent := m } := by unfold RefS.send; rw [hm]
  have e2 : s.news = ({ s with sent := m } : RefS).pkts s.sent (m - s.sent) := by unfold RefS.news; rw [hm]; rfl
  have hm1 : s.sent ≤ m := by omega
  have hm2 : m ≤ s.l.length := by omega
  have hm3 : m ≤ s.done + s.wide := by omega
  have HM := Lib.hid hm0
  have E1 := Lib.hid e1
  have E2 := Lib.hid e2
  clear e1 e2 hm hm0
  obtain ⟨t, ht⟩ : ∃ t, s.done + s.wide = t := ⟨_, rfl⟩
  have hw : IntKind.i64.wrap ((s.done : Int) + (s.wide : Int)) = (t : Int) := by rw [IntWalk.i64_in _ (by omega)]; omega
  have HT := Lib.hid ht
  clear ht
  have hS : w.drew.cell? ⟨p, 4, none⟩ = some (.int .i64 s.sent) ∧ w.drew.cell? ⟨p, 3, none⟩ = some (.int .i64 s.done) ∧ w.drew.cell? ⟨p, 1, none⟩ = some (.int .i64 s.wide) := ⟨c4, c3, c1⟩
  by_cases hlt : s.l.length < t
  · obtain rfl : m = s.l.length := by have := HM.out; have := HT.out; omega
    have hdec : decide ((s.l.length : Int) < (t : Int)) = true := by simp; omega
    go_enter Try.func32, Try.ntmps32
    go_wp2
    refine wp_region_plan [] [(0, 0), (1, 0), (2, 0), (3, 1), (4, 0), (5, 0), (6, 0), (7, 1), (8, 0), (9, 0), (10, 0), (11, 1), (12, 0), (13, 0), (14, 0)] (fun w' : World => w'.cell? ⟨p, 4, none⟩ = some (.int .i64 s.sent) ∧ w'.cell? ⟨p, 3, none⟩ = some (.int .i64 s.done) ∧ w'.cell? ⟨p, 1, none⟩ = some (.int .i64 s.wide)) (by kernel_rfl) (by kernel_rfl) (fun d _ _ _ _ h => by cases d <;> exact h) ?_
    repeat (first | (refine plan_skip rfl rfl ?_; simp only [List.getElem_toArray, List.getElem_cons_succ, List.getElem_cons_zero, Act.put, List.setIfInBounds_toArray, List.set_cons_zero, List.set_cons_succ]) | (refine plan_pass2 rfl rfl ?_; simp only [List.getElem_toArray, List.getElem_cons_succ, List.getElem_cons_zero, Act.put, List.setIfInBounds_toArray, List.set_cons_zero, List.set_cons_succ]) | (refine plan_pass3 rfl rfl ?_; simp only [List.getElem_toArray, List.getElem_cons_succ, List.getElem_cons_zero, Act.put, List.setIfInBounds_toArray, List.set_cons_zero, List.set_cons_succ]) | (refine plan_take (v := ?_) rfl rfl ?_ ?_; rotate_left; (focus (intro w0; go_simp; try with_reducible rfl)); simp only [List.getElem_toArray, List.getElem_cons_succ, List.getElem_cons_zero, Act.put, List.setIfInBounds_toArray, List.set_cons_zero, List.set_cons_succ]) | (refine plan_held (v := ?_) rfl rfl hS ?_ ?_; rotate_left; (focus (intro w0 hSw; (try dsimp only at hSw); go_split_ands; go_simp; try with_reducible rfl)); simp only [List.getElem_toArray, List.getElem_cons_succ, List.getElem_cons_zero, Act.put, List.setIfInBounds_toArray, List.set_cons_zero, List.set_cons_succ])  | (refine plan_skip1 rfl rfl hS ?_; simp only [List.getElem_toArray, List.getElem_cons_succ, List.getElem_cons_zero, Act.put, List.setIfInBounds_toArray, List.set_cons_zero, List.set_cons_succ]))
    refine plan_nil ?_
    clear hS
    go_wp2_with fail
    obtain ⟨W1, hW1, hs1, hM1⟩ := refsend_end p f s _ w _ hok hp HR.out HB.out hm1 hm2 hm3
    rw [hW1]
    refine (from_any p f _ s.sent _ _ hs1 hm1 hm2).mono ?_; rintro e w2 ⟨v2, rfl, hr2, hM2⟩
    have HS1 := Lib.hid hs1
    have HR2 := Lib.hid hr2
    have HM2 := Lib.hid hM2
    have HMM1 := Lib.hid hM1
    clear hs1 hr2 hM2 hM1
    go_wp2
    go_ret
    refine ⟨v2, rfl, ?_, ?_, HMM1.out.trans HM2.out fun _ f => f.elim⟩
    · rw [E2.out]
      simpa [RefS.pkts] using HR2.out.mono fun k hk => Nat.le_trans HMM1.out.size hk
    · rw [E1.out]
      exact HS1.out.keep HM2.out fun _ _ f => f
  · obtain rfl : m = t := by have := HM.out; have := HT.out; omega
    have hdec : decide ((s.l.length : Int) < (m : Int)) = false := by simp; omega
    go_enter Try.func32, Try.ntmps32
    go_wp2
    refine wp_region_plan [] [(0, 0), (1, 0), (2, 0), (3, 1), (4, 0), (5, 0), (6, 0), (7, 1), (8, 0), (9, 0), (10, 0), (11, 1), (12, 0), (13, 0), (14, 0)] (fun w' : World => w'.cell? ⟨p, 4, none⟩ = some (.int .i64 s.sent) ∧ w'.cell? ⟨p, 3, none⟩ = some (.int .i64 s.done) ∧ w'.cell? ⟨p, 1, none⟩ = some (.int .i64 s.wide)) (by kernel_rfl) (by kernel_rfl) (fun d _ _ _ _ h => by cases d <;> exact h) ?_
    repeat (first | (refine plan_skip rfl rfl ?_; simp only [List.getElem_toArray, List.getElem_cons_succ, List.getElem_cons_zero, Act.put, List.setIfInBounds_toArray, List.set_cons_zero, List.set_cons_succ]) | (refine plan_pass2 rfl rfl ?_; simp only [List.getElem_toArray, List.getElem_cons_succ, List.getElem_cons_zero, Act.put, List.setIfInBounds_toArray, List.set_cons_zero, List.set_cons_succ]) | (refine plan_pass3 rfl rfl ?_; simp only [List.getElem_toArray, List.getElem_cons_succ, List.getElem_cons_zero, Act.put, List.setIfInBounds_toArray, List.set_cons_zero, List.set_cons_succ]) | (refine plan_take (v := ?_) rfl rfl ?_ ?_; rotate_left; (focus (intro w0; go_simp; try with_reducible rfl)); simp only [List.getElem_toArray, List.getElem_cons_succ, List.getElem_cons_zero, Act.put, List.setIfInBounds_toArray, List.set_cons_zero, List.set_cons_succ]) | (refine plan_held (v := ?_) rfl rfl hS ?_ ?_; rotate_left; (focus (intro w0 hSw; (try dsimp only at hSw); go_split_ands; go_simp; try with_reducible rfl)); simp only [List.getElem_toArray, List.getElem_cons_succ, List.getElem_cons_zero, Act.put, List.setIfInBounds_toArray, List.set_cons_zero, List.set_cons_succ])  | (refine plan_skip1 rfl rfl hS ?_; simp only [List.getElem_toArray, List.getElem_cons_succ, List.getElem_cons_zero, Act.put, List.setIfInBounds_toArray, List.set_cons_zero, List.set_cons_succ]))
    refine plan_nil ?_
    clear hS
    go_wp2_with fail
    obtain ⟨W1, hW1, hs1, hM1⟩ := refsend_end p f s _ w _ hok hp HR.out HB.out hm1 hm2 hm3
    rw [hW1]
    refine (from_any p f _ s.sent _ _ hs1 hm1 hm2).mono ?_; rintro e w2 ⟨v2, rfl, hr2, hM2⟩
    have HS1 := Lib.hid hs1
    have HR2 := Lib.hid hr2
    have HM2 := Lib.hid hM2
    have HMM1 := Lib.hid hM1
    clear hs1 hr2 hM2 hM1
    go_wp2
    go_ret
    refine ⟨v2, rfl, ?_, ?_, HMM1.out.trans HM2.out fun _ f => f.elim⟩
    · rw [E2.out]
      simpa [RefS.pkts] using HR2.out.mono fun k hk => Nat.le_trans HMM1.out.size hk
    · rw [E1.out]
      exact HS1.out.keep HM2.out fun _ _ f => f
/-- how many are acknowledged -/
def RefS.acked (s : RefS) (n : Int) : Nat := if Sr.gap (Sr.add s.first s.done) n ≤ ((s.sent - s.done : Nat) : Int) then (Sr.gap (Sr.add s.first s.done) n).toNat else 0
def RefS.ack (s : RefS) (n : Int) : RefS := { s with done := s.done + s.acked n }
theorem RefS.acked_found {s : RefS} {n : Int} (hok : s.Ok) {j : Nat} (h1 : s.done < j) (h2 : j ≤ s.sent) (h3 : Sr.add s.first j = n) : s.acked n = j - s.done := by
  have hs := hok.s2
  have hw := hok.w1
  have hf0 := hok.f0
  have hf1 := hok.f1
  have : Sr.gap (Sr.add s.first s.done) n = ((j - s.done : Nat) : Int) := by
    subst h3
    unfold Sr.gap Sr.add
    split <;> omega
  unfold RefS.acked
  rw [this, if_pos (by omega)]
  rfl
theorem RefS.acked_none {s : RefS} {n : Int} (hok : s.Ok) (hn0 : 0 ≤ n) (hn1 : n < 4294967296) (h : ∀ t : Nat, s.done < t → t ≤ s.sent → Sr.add s.first t ≠ n) : s.acked n = 0 := by
  unfold RefS.acked
  split
  · rename_i hg
    by_cases hp : 0 < Sr.gap (Sr.add s.first s.done) n
    · exfalso
      have hd := hok.d1
      refine h (s.done + (Sr.gap (Sr.add s.first s.done) n).toNat) (by omega) (by omega) ?_
      revert hp hg
      unfold Sr.gap Sr.add
      intro hg hp
      split at hg <;> (try split at hp) <;> (try split) <;> omega
    · omega
  · rfl
set_option maxRecDepth 100000 in
theorem RefAck_any (p : Nat) (f : Nat → Prop) (s : RefS) (n : Int) (w : World) (h : RefSAt w p f s) (hn0 : 0 ≤ n) (hn1 : n < 4294967296) :
    Calls Try.prog 34 #[.pointer (some ⟨p, 0, none⟩), .int .u32 n] w fun e w' => e = .returned (.int .i64 (s.acked n)) ∧ RefSAt w' p f (s.ack n) ∧ Mod f w w' := by
  obtain ⟨hok, hp, v, hb, hr⟩ := h
  have c0 : w.cell? ⟨p, 0, none⟩ = some (.int .u32 s.first) := cellOf hb 0
  have c3 : w.cell? ⟨p, 3, none⟩ = some (.int .i64 s.done) := cellOf hb 3
  have c4 : w.cell? ⟨p, 4, none⟩ = some (.int .i64 s.sent) := cellOf hb 4
  have f3 : w.frozen? ⟨p, 3, none⟩ = false := freeOf hb 3
  have HR := Lib.hid hr
  have HB := Lib.hid hb
  have d1 := hok.d1
  have s1 := hok.s1
  have s2 := hok.s2
  have w1 := hok.w1
  have l1 := hok.l1
  have f0 := hok.f0
  have f1 := hok.f1
  clear hr hb
  go_enter Try.func34, Try.ntmps34
  go_wp2
  go_loop [5] (fun i => ∃ j : Nat, s.done < j ∧ j ≤ s.sent + 1 ∧ i = .int .i64 j ∧ ∀ t : Nat, s.done < t → t < j → Sr.add s.first t ≠ n) (fun i => s.sent + 1 - (intOf i).toNat)
  case atStart => exact ⟨s.done + 1, by omega, by omega, by go_num, fun t h1 h2 => by omega⟩
  case round =>
    obtain ⟨j, hj1, hj2, rfl, hno⟩ := hrel
    have HNO := Lib.hid hno
    clear hno
    by_cases hj : j ≤ s.sent
    · by_cases he : Sr.add s.first j = n
      · have hbq : (Sr.add s.first j == n) = true := by simpa using he
        have HE := Lib.hid he
        clear he
        have ea := RefS.acked_found hok hj1 hj HE.out
        obtain ⟨d, hd⟩ : ∃ d, j - s.done = d := ⟨_, rfl⟩
        have hw : IntKind.i64.wrap ((j : Int) - (s.done : Int)) = (d : Int) := by rw [IntWalk.i64_in _ (by omega)]; omega
        rw [hd] at ea
        have HD := Lib.hid hd
        have EA := Lib.hid ea
        clear hd ea
        go_wp2_with (go_at_call 29; refine (refAdd_any _ _ (by omega) (by omega) (by omega) (by omega) _).mono ?_; rintro e w' ⟨rfl, rfl⟩)
        go_ret
        refine ⟨by rw [EA.out]; rfl, ?_, (Mod.refl _ _).setCell (.inl hp) _⟩
        have e1 : s.ack n = { s with done := j } := by
          unfold RefS.ack
          rw [EA.out]
          have := HD.out
          congr 1
          omega
        rw [e1]
        exact ⟨⟨hok.f0, hok.f1, hok.l1, hj, hok.s1, by show s.sent ≤ j + s.wide; omega, hok.w0, hok.w1⟩, hp, _, setOf HB.out 3 _, HR.out.setFar (HR.out.ne HB.out (by decide)) _⟩
      · have hbq : (Sr.add s.first j == n) = false := by simpa using he
        go_wp2_with (go_at_call 29; refine (refAdd_any _ _ (by omega) (by omega) (by omega) (by omega) _).mono ?_; rintro e w' ⟨rfl, rfl⟩)
        go_round
        case rel => exact ⟨j + 1, by omega, by omega, by go_num, fun t h1 h2 => by
          rcases Nat.lt_or_ge t j with h | h
          · exact HNO.out t h1 h
          · obtain rfl : t = j := by omega
            exact he⟩
        case measure => simp [intOf]; omega
    · have EA := Lib.hid (RefS.acked_none hok hn0 hn1 fun t h1 h2 => HNO.out t h1 (by omega))
      go_wp2
      go_ret
      refine ⟨by rw [EA.out]; rfl, ?_, Mod.refl _ _⟩
      unfold RefS.ack
      rw [EA.out]
      exact ⟨hok, hp, _, HB.out, HR.out⟩
end Go.Proofs.Ytidkapanpieflaa
