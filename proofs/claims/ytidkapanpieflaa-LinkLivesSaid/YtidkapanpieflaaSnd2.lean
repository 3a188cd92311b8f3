/- The sender of package window: Again, Ack, Open, Base. -/
import Derived.Test.YtidkapanpieflaaSnd
import Derived.Test.YtidkapanpieflaaReg
namespace Go.Proofs.Ytidkapanpieflaa
open Go.RowKit
set_option linter.unusedVariables false
set_option linter.unusedSimpArgs false
def Snd.again (s : Snd) : List Pkt := s.pkts 0 s.sent
theorem Again_any (p : Nat) (f : Nat → Prop) (s : Snd) (w : World) (h : SndAt w p f s) :
    Calls Try.prog 26 #[.pointer (some ⟨p, 0, none⟩)] w fun e w' => ∃ v, e = .returned v ∧ Row w' (fun k => w.heap.size ≤ k) 36 2 v s.again.length (Pkt.vals s.again) ∧ Mod (fun _ => False) w w' := by
  have h0 := Lib.hid h
  obtain ⟨hok, hp, v, hb, hr⟩ := h
  have c2 : w.cell? ⟨p, 2, none⟩ = some (.int .i64 s.sent) := cellOf hb 2
  have b1 := hok.s1
  have e1 : s.again.length = s.sent := by simp [Snd.again, Snd.pkts]
  clear hb hr
  have E1 := Lib.hid e1
  clear e1
  go_enter Try.func26, Try.ntmps26
  go_wp2_with fail
  refine (packets_any p f s 0 s.sent _ h0.out (Nat.zero_le _) b1).mono ?_; rintro e w2 ⟨v2, rfl, hr2, hM2⟩
  have HR2 := Lib.hid hr2
  have HM2 := Lib.hid hM2
  clear hr2 hM2
  go_wp2
  go_ret
  refine ⟨v2, rfl, ?_, HM2.out⟩
  rw [E1.out]
  exact HR2.out
theorem Open_any (p : Nat) (f : Nat → Prop) (s : Snd) (w : World) (h : SndAt w p f s) :
    Calls Try.prog 27 #[.pointer (some ⟨p, 0, none⟩)] w fun e w' => e = .returned (.int .i64 s.bodies.length) ∧ w = w' := by
  obtain ⟨hok, hp, v, hb, hr⟩ := h
  obtain ⟨ad, cap, rfl, hn, hc, hg⟩ := hr.form
  have c1 : w.cell? ⟨p, 1, none⟩ = some (.slice ad s.bodies.length cap) := cellOf hb 1
  clear hb hr hg
  go_enter Try.func27, Try.ntmps27
  go_wp2
  go_ret
  exact ⟨rfl, rfl⟩
theorem Base_any (p : Nat) (f : Nat → Prop) (s : Snd) (w : World) (h : SndAt w p f s) :
    Calls Try.prog 35 #[.pointer (some ⟨p, 0, none⟩)] w fun e w' => e = .returned (.int .u32 s.base) ∧ w = w' := by
  obtain ⟨hok, hp, v, hb, hr⟩ := h
  have c0 : w.cell? ⟨p, 0, none⟩ = some (.int .u32 s.base) := cellOf hb 0
  clear hb hr
  go_enter Try.func35, Try.ntmps35
  go_wp2
  go_ret
  exact ⟨rfl, rfl⟩
/-- how many are acknowledged -/
def Snd.acked (s : Snd) (n : Int) : Nat := if Sr.gap s.base n ≤ (s.sent : Int) then (Sr.gap s.base n).toNat else 0
def Snd.ack (s : Snd) (n : Int) : Snd := if s.acked n = 0 then s else { s with base := n, bodies := s.bodies.drop (s.acked n), sent := s.sent - s.acked n }
theorem ack_end (p : Nat) (f : Nat → Prop) (s : Snd) (n : Int) (w w1 : World) (k m d : Nat) (v0 : Value) (a1 : Option Addr) (cap1 : Nat) (l : List ByteArray) (hok : s.Ok) (hp : f p) (hn0 : 0 ≤ n) (hn1 : n < 4294967296) (hk : k ≤ s.sent) (em : s.bodies.length - k = m) (el : s.bodies.drop k = l) (ed : s.sent - k = d)
    (hm : Mod (fun x => Value.ownBlock (.slice none 0 0) = some x) w w1) (hb : w1.heap[p]? = some (.cells #[.int .u32 s.base, v0, .int .i64 s.sent, .int .i64 s.wide] 95 (0, 0)))
    (hr : Row w1 (fun x => False ∨ w.heap.size ≤ x) 9 1 (.slice a1 m cap1) m (l.map .string)) :
    SndAt (((w1.setCell ⟨p, 0, none⟩ (.int .u32 n)).setCell ⟨p, 1, none⟩ (.slice a1 m cap1)).setCell ⟨p, 2, none⟩ (.int .i64 d)) p (fun x => f x ∨ w.heap.size ≤ x) { s with base := n, bodies := s.bodies.drop k, sent := s.sent - k } ∧
    Mod f w (((w1.setCell ⟨p, 0, none⟩ (.int .u32 n)).setCell ⟨p, 1, none⟩ (.slice a1 m cap1)).setCell ⟨p, 2, none⟩ (.int .i64 d)) := by
  have hb1 := setOf hb 0 (.int .u32 n)
  have hb2 := setOf hb1 1 (.slice a1 m cap1)
  have hb3 := setOf hb2 2 (.int .i64 (d : Int))
  have b := hok
  subst em el ed
  refine ⟨⟨⟨hn0, hn1, by have := b.l1; simp; omega, by have := b.s1; simp; omega, by have := b.s2; show s.sent - k ≤ s.wide; omega, b.w0, b.w1⟩, .inl hp, .slice a1 (s.bodies.length - k) cap1, hb3, ?_⟩, ?_⟩
  · have r1 := hr.setFar (p := ⟨p, 0, none⟩) (hr.ne hb (by decide)) (.int .u32 n)
    have r2 := r1.setFar (p := ⟨p, 1, none⟩) (hr.ne hb (by decide)) (.slice a1 (s.bodies.length - k) cap1)
    have r3 := r2.setFar (p := ⟨p, 2, none⟩) (hr.ne hb (by decide)) (.int .i64 ((s.sent - k : Nat) : Int))
    have := r3.mono (f' := fun x => f x ∨ w.heap.size ≤ x) fun x hx => hx.elim (fun f => f.elim) .inr
    simpa using this
  · exact (((hm.mono (G := f) fun x hx => by simp [Value.ownBlock] at hx).setCell (.inl hp) _).setCell (.inl hp) _).setCell (.inl hp) _
set_option maxRecDepth 100000 in
set_option maxHeartbeats 400000 in
theorem Ack_any (p : Nat) (f : Nat → Prop) (s : Snd) (n : Int) (w : World) (h : SndAt w p f s) (hn0 : 0 ≤ n) (hn1 : n < 4294967296) :
    Calls Try.prog 15 #[.pointer (some ⟨p, 0, none⟩), .int .u32 n] w fun e w' => e = .returned (.int .i64 (s.acked n)) ∧ SndAt w' p (fun k => f k ∨ w.heap.size ≤ k) (s.ack n) ∧ Mod f w w' := by
  obtain ⟨hok, hp, v, hb, hr⟩ := h
  obtain ⟨ad, cap, rfl, hn, hc, hg⟩ := hr.form
  have c0 : w.cell? ⟨p, 0, none⟩ = some (.int .u32 s.base) := cellOf hb 0
  have c1 : w.cell? ⟨p, 1, none⟩ = some (.slice ad s.bodies.length cap) := cellOf hb 1
  have c2 : w.cell? ⟨p, 2, none⟩ = some (.int .i64 s.sent) := cellOf hb 2
  have f0 : w.frozen? ⟨p, 0, none⟩ = false := freeOf hb 0
  have f1 : w.frozen? ⟨p, 1, none⟩ = false := freeOf hb 1
  have f2 : w.frozen? ⟨p, 2, none⟩ = false := freeOf hb 2
  have b0 := hok.l1
  have b1 := hok.s1
  have b2 := hok.s2
  have b3 := hok.w1
  have HR := Lib.hid hr
  have HB := Lib.hid hb
  have HG := Lib.hid hg
  clear hr hg hb
  obtain ⟨gb1, gb2⟩ := Sr.gap_bd s.base n
  obtain ⟨d, hd⟩ : ∃ d, Sr.gap s.base n = d := ⟨_, rfl⟩
  rw [hd] at gb1 gb2
  have HD := Lib.hid hd
  have GAP : ∀ w : World, Calls Try.prog 65 #[.int .u32 s.base, .int .u32 n] w fun e w' => e = .returned (.int .i64 d) ∧ w = w' := fun w => hd ▸ Gap_any _ _ w
  have HGAP := Lib.hid GAP
  clear GAP hd
  by_cases h0 : d ≤ 0
  · have t0 : decide (d ≤ 0) = true := decide_eq_true h0
    have ea : s.acked n = 0 := by unfold Snd.acked; rw [HD.out]; split <;> omega
    have es : s.ack n = s := by unfold Snd.ack; rw [if_pos ea]
    go_enter Try.func15, Try.ntmps15
    go_wp2_with (go_at_call 65; refine (HGAP.out _).mono ?_; rintro e w' ⟨rfl, rfl⟩)
    go_ret
    refine ⟨by rw [ea]; rfl, ?_, Mod.refl _ _⟩
    rw [es]
    exact ⟨hok, .inl hp, _, HB.out, HR.out.mono fun k hk => .inl hk⟩
  · have t0 : decide (d ≤ 0) = false := decide_eq_false h0
    by_cases h1 : (s.sent : Int) < d
    · have t1 : decide ((s.sent : Int) < d) = true := decide_eq_true h1
      have ea : s.acked n = 0 := by unfold Snd.acked; rw [HD.out]; split <;> omega
      have es : s.ack n = s := by unfold Snd.ack; rw [if_pos ea]
      go_enter Try.func15, Try.ntmps15
      go_wp2_with (go_at_call 65; refine (HGAP.out _).mono ?_; rintro e w' ⟨rfl, rfl⟩)
      go_ret
      refine ⟨by rw [ea]; rfl, ?_, Mod.refl _ _⟩
      rw [es]
      exact ⟨hok, .inl hp, _, HB.out, HR.out.mono fun k hk => .inl hk⟩
    · have t1 : decide ((s.sent : Int) < d) = false := decide_eq_false h1
      obtain ⟨k, rfl⟩ := Int.eq_ofNat_of_zero_le (show 0 ≤ d by omega)
      have ea : s.acked n = k := by unfold Snd.acked; rw [HD.out, if_pos (by omega)]; rfl
      have es : s.ack n = { s with base := n, bodies := s.bodies.drop k, sent := s.sent - k } := by unfold Snd.ack; rw [if_neg (by omega), ea]
      have EA := Lib.hid ea
      have ES := Lib.hid es
      obtain ⟨g, rfl, hfg, hlg, hcg⟩ := HG.out (by omega)
      have HCG := Lib.hid hcg
      clear ea es hcg
      obtain ⟨d, ed⟩ : ∃ d, s.sent - k = d := ⟨_, rfl⟩
      have hw : IntKind.i64.wrap ((s.sent : Int) - (k : Int)) = (d : Int) := by rw [IntWalk.i64_in _ (by omega)]; omega
      have hki : (k : Int) ≤ (s.bodies.length : Int) := by omega
      have hki2 : (k : Int) ≤ (cap : Int) := by omega
      have hS : w.drew.cell? ⟨p, 1, none⟩ = some (.slice (some ⟨g, 0, none⟩) s.bodies.length cap) ∧ w.drew.cell? ⟨p, 2, none⟩ = some (.int .i64 s.sent) := ⟨c1, c2⟩
      have ED := Lib.hid ed
      clear ed
      by_cases hkc : cap = k
      · subst hkc
        have EM : Hid (s.bodies.length - cap = 0) := Lib.hid (by omega)
        have EL : Hid (s.bodies.drop cap = []) := Lib.hid (List.drop_of_length_le (by omega))
        have HLEN : Hid ((([] : List ByteArray).map Value.string).length = 0 * 1) := Lib.hid rfl
        have H1C : Hid (∀ u ∈ ([] : List ByteArray).map Value.string, u.oneCell' = true) := Lib.hid (fun u hu => by cases hu)
        have HCEL : Hid (∀ j u, (([] : List ByteArray).map Value.string)[j]? = some u → w.drew.cell? ((⟨g, 0, none⟩ : Addr).add j) = some u) := Lib.hid (fun j u hu => by cases hu)
        go_enter Try.func15, Try.ntmps15
        go_wp2_with (go_at_call 65; refine (HGAP.out _).mono ?_; rintro e w' ⟨rfl, rfl⟩)
        refine wp_region_plan [19, 22, 25] [(0, 0), (1, 0), (2, 0), (3, 0), (4, 0), (5, 0), (6, 0), (7, 1), (8, 0), (9, 0), (11, 0), (12, 0), (13, 0), (14, 1), (15, 0), (16, 0), (10, 2), (17, 0), (18, 0), (19, 3), (20, 0), (21, 0), (22, 3), (23, 0), (24, 0), (25, 3)] (fun w' : World => w'.cell? ⟨p, 1, none⟩ = some (.slice (some ⟨g, 0, none⟩) s.bodies.length cap) ∧ w'.cell? ⟨p, 2, none⟩ = some (.int .i64 s.sent)) (by kernel_rfl) (by kernel_rfl) (fun d _ _ _ _ h => by cases d <;> exact h) ?_
        repeat (first | (refine plan_skip rfl rfl ?_; simp only [List.getElem_toArray, List.getElem_cons_succ, List.getElem_cons_zero, Act.put, List.setIfInBounds_toArray, List.set_cons_zero, List.set_cons_succ]) | (refine plan_pass2 rfl rfl ?_; simp only [List.getElem_toArray, List.getElem_cons_succ, List.getElem_cons_zero, Act.put, List.setIfInBounds_toArray, List.set_cons_zero, List.set_cons_succ]) | (refine plan_pass3 rfl rfl ?_; simp only [List.getElem_toArray, List.getElem_cons_succ, List.getElem_cons_zero, Act.put, List.setIfInBounds_toArray, List.set_cons_zero, List.set_cons_succ]) | (refine plan_take (v := ?_) rfl rfl ?_ ?_; rotate_left; (focus (intro w0; go_simp; try with_reducible rfl)); simp only [List.getElem_toArray, List.getElem_cons_succ, List.getElem_cons_zero, Act.put, List.setIfInBounds_toArray, List.set_cons_zero, List.set_cons_succ]) | (refine plan_held (v := ?_) rfl rfl hS ?_ ?_; rotate_left; (focus (intro w0 hSw; (try dsimp only at hSw); go_split_ands; go_simp; try with_reducible rfl)); simp only [List.getElem_toArray, List.getElem_cons_succ, List.getElem_cons_zero, Act.put, List.setIfInBounds_toArray, List.set_cons_zero, List.set_cons_succ])  | (refine plan_skip1 rfl rfl hS ?_; simp only [List.getElem_toArray, List.getElem_cons_succ, List.getElem_cons_zero, Act.put, List.setIfInBounds_toArray, List.set_cons_zero, List.set_cons_succ]))
        (refine plan_do rfl rfl fun K hK => ?_; try simp only [List.getElem_toArray, List.getElem_cons_succ, List.getElem_cons_zero])
        refine wp_append_row Try.elStr (.const (.slice none 0 0)) (.tmp 33) rfl (fun _ => False) (.slice none 0 0) 0 [] rfl (Row.nil _ _ _ _) ⟨g, 0, none⟩ 0 0 (([] : List ByteArray).map Value.string) rfl HLEN.out HCEL.out H1C.out (by omega) (by unfold maxLen; omega) ?_
        intro v1 w1 hr1 hm1
        obtain ⟨a1, cap1, rfl, hnn1, hcc1, hg1⟩ := hr1.form
        have nb : ∀ x, ¬ (Value.slice none 0 0).ownBlock = some x := by simp [Value.ownBlock]
        have hb1 := hm1.keep HB.out (nb p)
        have k0 := hm1.free (nb p) c0 f0
        have k1 := hm1.free (nb p) c1 f1
        have k2 := hm1.free (nb p) c2 f2
        have d0 := hm1.cell (nb p) c0
        have d1 := hm1.cell (nb p) c1
        have d2 := hm1.cell (nb p) c2
        refine hK _ _ ⟨d1, d2⟩ ?_
        clear hK K
        try simp only [List.getElem_toArray, List.getElem_cons_succ, List.getElem_cons_zero, Act.put, List.setIfInBounds_toArray, List.set_cons_zero, List.set_cons_succ]
        rw [Nat.zero_add] at hr1
        have HR1 := Lib.hid hr1
        have HM1 := Lib.hid hm1
        have HB1 := Lib.hid hb1
        clear hr1 hm1 hg1 hb1 nb
        repeat (first | (refine plan_skip rfl rfl ?_; simp only [List.getElem_toArray, List.getElem_cons_succ, List.getElem_cons_zero, Act.put, List.setIfInBounds_toArray, List.set_cons_zero, List.set_cons_succ]) | (refine plan_pass2 rfl rfl ?_; simp only [List.getElem_toArray, List.getElem_cons_succ, List.getElem_cons_zero, Act.put, List.setIfInBounds_toArray, List.set_cons_zero, List.set_cons_succ]) | (refine plan_pass3 rfl rfl ?_; simp only [List.getElem_toArray, List.getElem_cons_succ, List.getElem_cons_zero, Act.put, List.setIfInBounds_toArray, List.set_cons_zero, List.set_cons_succ]) | (refine plan_take (v := ?_) rfl rfl ?_ ?_; rotate_left; (focus (intro w0; go_simp; try with_reducible rfl)); simp only [List.getElem_toArray, List.getElem_cons_succ, List.getElem_cons_zero, Act.put, List.setIfInBounds_toArray, List.set_cons_zero, List.set_cons_succ]) | fail )
        (refine plan_end rfl rfl rfl fun K hK => ?_; (try simp only [List.getElem_toArray, List.getElem_cons_succ, List.getElem_cons_zero]); go_simp; refine hK _ _ ?_; clear hK K; try simp only [List.getElem_toArray, List.getElem_cons_succ, List.getElem_cons_zero, Act.put, List.setIfInBounds_toArray, List.set_cons_zero, List.set_cons_succ])
        repeat (first | (refine plan_skip rfl rfl ?_; simp only [List.getElem_toArray, List.getElem_cons_succ, List.getElem_cons_zero, Act.put, List.setIfInBounds_toArray, List.set_cons_zero, List.set_cons_succ]) | (refine plan_pass2 rfl rfl ?_; simp only [List.getElem_toArray, List.getElem_cons_succ, List.getElem_cons_zero, Act.put, List.setIfInBounds_toArray, List.set_cons_zero, List.set_cons_succ]) | (refine plan_pass3 rfl rfl ?_; simp only [List.getElem_toArray, List.getElem_cons_succ, List.getElem_cons_zero, Act.put, List.setIfInBounds_toArray, List.set_cons_zero, List.set_cons_succ]) | (refine plan_take (v := ?_) rfl rfl ?_ ?_; rotate_left; (focus (intro w0; go_simp; try with_reducible rfl)); simp only [List.getElem_toArray, List.getElem_cons_succ, List.getElem_cons_zero, Act.put, List.setIfInBounds_toArray, List.set_cons_zero, List.set_cons_succ]) | fail )
        (refine plan_end rfl rfl rfl fun K hK => ?_; (try simp only [List.getElem_toArray, List.getElem_cons_succ, List.getElem_cons_zero]); go_simp; refine hK _ _ ?_; clear hK K; try simp only [List.getElem_toArray, List.getElem_cons_succ, List.getElem_cons_zero, Act.put, List.setIfInBounds_toArray, List.set_cons_zero, List.set_cons_succ])
        repeat (first | (refine plan_skip rfl rfl ?_; simp only [List.getElem_toArray, List.getElem_cons_succ, List.getElem_cons_zero, Act.put, List.setIfInBounds_toArray, List.set_cons_zero, List.set_cons_succ]) | (refine plan_pass2 rfl rfl ?_; simp only [List.getElem_toArray, List.getElem_cons_succ, List.getElem_cons_zero, Act.put, List.setIfInBounds_toArray, List.set_cons_zero, List.set_cons_succ]) | (refine plan_pass3 rfl rfl ?_; simp only [List.getElem_toArray, List.getElem_cons_succ, List.getElem_cons_zero, Act.put, List.setIfInBounds_toArray, List.set_cons_zero, List.set_cons_succ]) | (refine plan_take (v := ?_) rfl rfl ?_ ?_; rotate_left; (focus (intro w0; go_simp; try with_reducible rfl)); simp only [List.getElem_toArray, List.getElem_cons_succ, List.getElem_cons_zero, Act.put, List.setIfInBounds_toArray, List.set_cons_zero, List.set_cons_succ]) | fail )
        (refine plan_end rfl rfl rfl fun K hK => ?_; (try simp only [List.getElem_toArray, List.getElem_cons_succ, List.getElem_cons_zero]); go_simp; refine hK _ _ ?_; clear hK K; try simp only [List.getElem_toArray, List.getElem_cons_succ, List.getElem_cons_zero, Act.put, List.setIfInBounds_toArray, List.set_cons_zero, List.set_cons_succ])
        refine plan_nil ?_
        go_wp2
        go_ret
        refine ⟨by rw [EA.out]; rfl, ?_⟩
        rw [ES.out]
        exact ack_end p f s n w w1 cap 0 d _ a1 cap1 [] hok hp hn0 hn1 (by omega) EM.out EL.out ED.out (Mod.ofDrew HM1.out) HB1.out HR1.out
      · have HLEN : Hid (((s.bodies.drop k).map Value.string).length = (s.bodies.length - k) * 1) := Lib.hid (by simp)
        have H1C : Hid (∀ u ∈ (s.bodies.drop k).map Value.string, u.oneCell' = true) := Lib.hid (fun u hu => by obtain ⟨x, _, rfl⟩ := List.mem_map.1 hu; rfl)
        have HCEL : Hid (∀ j u, ((s.bodies.drop k).map Value.string)[j]? = some u → w.drew.cell? ((⟨g, k, none⟩ : Addr).add j) = some u) := Lib.hid (fun j u hu => by rw [addr_add]; exact HCG.out (k + j) u (by rw [← hu]; simp))
        go_enter Try.func15, Try.ntmps15
        go_wp2_with (go_at_call 65; refine (HGAP.out _).mono ?_; rintro e w' ⟨rfl, rfl⟩)
        refine wp_region_plan [19, 22, 25] [(0, 0), (1, 0), (2, 0), (3, 0), (4, 0), (5, 0), (6, 0), (7, 1), (8, 0), (9, 0), (11, 0), (12, 0), (13, 0), (14, 1), (15, 0), (16, 0), (10, 2), (17, 0), (18, 0), (19, 3), (20, 0), (21, 0), (22, 3), (23, 0), (24, 0), (25, 3)] (fun w' : World => w'.cell? ⟨p, 1, none⟩ = some (.slice (some ⟨g, 0, none⟩) s.bodies.length cap) ∧ w'.cell? ⟨p, 2, none⟩ = some (.int .i64 s.sent)) (by kernel_rfl) (by kernel_rfl) (fun d _ _ _ _ h => by cases d <;> exact h) ?_
        repeat (first | (refine plan_skip rfl rfl ?_; simp only [List.getElem_toArray, List.getElem_cons_succ, List.getElem_cons_zero, Act.put, List.setIfInBounds_toArray, List.set_cons_zero, List.set_cons_succ]) | (refine plan_pass2 rfl rfl ?_; simp only [List.getElem_toArray, List.getElem_cons_succ, List.getElem_cons_zero, Act.put, List.setIfInBounds_toArray, List.set_cons_zero, List.set_cons_succ]) | (refine plan_pass3 rfl rfl ?_; simp only [List.getElem_toArray, List.getElem_cons_succ, List.getElem_cons_zero, Act.put, List.setIfInBounds_toArray, List.set_cons_zero, List.set_cons_succ]) | (refine plan_take (v := ?_) rfl rfl ?_ ?_; rotate_left; (focus (intro w0; go_simp; try with_reducible rfl)); simp only [List.getElem_toArray, List.getElem_cons_succ, List.getElem_cons_zero, Act.put, List.setIfInBounds_toArray, List.set_cons_zero, List.set_cons_succ]) | (refine plan_held (v := ?_) rfl rfl hS ?_ ?_; rotate_left; (focus (intro w0 hSw; (try dsimp only at hSw); go_split_ands; go_simp; try with_reducible rfl)); simp only [List.getElem_toArray, List.getElem_cons_succ, List.getElem_cons_zero, Act.put, List.setIfInBounds_toArray, List.set_cons_zero, List.set_cons_succ])  | (refine plan_skip1 rfl rfl hS ?_; simp only [List.getElem_toArray, List.getElem_cons_succ, List.getElem_cons_zero, Act.put, List.setIfInBounds_toArray, List.set_cons_zero, List.set_cons_succ]))
        (refine plan_do rfl rfl fun K hK => ?_; try simp only [List.getElem_toArray, List.getElem_cons_succ, List.getElem_cons_zero])
        refine wp_append_row Try.elStr (.const (.slice none 0 0)) (.tmp 33) rfl (fun _ => False) (.slice none 0 0) 0 [] rfl (Row.nil _ _ _ _) ⟨g, k, none⟩ (s.bodies.length - k) (cap - k) ((s.bodies.drop k).map Value.string) rfl HLEN.out HCEL.out H1C.out (by omega) (by unfold maxLen; omega) ?_
        intro v1 w1 hr1 hm1
        obtain ⟨a1, cap1, rfl, hnn1, hcc1, hg1⟩ := hr1.form
        have nb : ∀ x, ¬ (Value.slice none 0 0).ownBlock = some x := by simp [Value.ownBlock]
        have hb1 := hm1.keep HB.out (nb p)
        have k0 := hm1.free (nb p) c0 f0
        have k1 := hm1.free (nb p) c1 f1
        have k2 := hm1.free (nb p) c2 f2
        have d0 := hm1.cell (nb p) c0
        have d1 := hm1.cell (nb p) c1
        have d2 := hm1.cell (nb p) c2
        refine hK _ _ ⟨d1, d2⟩ ?_
        clear hK K
        try simp only [List.getElem_toArray, List.getElem_cons_succ, List.getElem_cons_zero, Act.put, List.setIfInBounds_toArray, List.set_cons_zero, List.set_cons_succ]
        rw [Nat.zero_add] at hr1
        have HR1 := Lib.hid hr1
        have HM1 := Lib.hid hm1
        have HB1 := Lib.hid hb1
        clear hr1 hm1 hg1 hb1 nb
        repeat (first | (refine plan_skip rfl rfl ?_; simp only [List.getElem_toArray, List.getElem_cons_succ, List.getElem_cons_zero, Act.put, List.setIfInBounds_toArray, List.set_cons_zero, List.set_cons_succ]) | (refine plan_pass2 rfl rfl ?_; simp only [List.getElem_toArray, List.getElem_cons_succ, List.getElem_cons_zero, Act.put, List.setIfInBounds_toArray, List.set_cons_zero, List.set_cons_succ]) | (refine plan_pass3 rfl rfl ?_; simp only [List.getElem_toArray, List.getElem_cons_succ, List.getElem_cons_zero, Act.put, List.setIfInBounds_toArray, List.set_cons_zero, List.set_cons_succ]) | (refine plan_take (v := ?_) rfl rfl ?_ ?_; rotate_left; (focus (intro w0; go_simp; try with_reducible rfl)); simp only [List.getElem_toArray, List.getElem_cons_succ, List.getElem_cons_zero, Act.put, List.setIfInBounds_toArray, List.set_cons_zero, List.set_cons_succ]) | fail )
        (refine plan_end rfl rfl rfl fun K hK => ?_; (try simp only [List.getElem_toArray, List.getElem_cons_succ, List.getElem_cons_zero]); go_simp; refine hK _ _ ?_; clear hK K; try simp only [List.getElem_toArray, List.getElem_cons_succ, List.getElem_cons_zero, Act.put, List.setIfInBounds_toArray, List.set_cons_zero, List.set_cons_succ])
        repeat (first | (refine plan_skip rfl rfl ?_; simp only [List.getElem_toArray, List.getElem_cons_succ, List.getElem_cons_zero, Act.put, List.setIfInBounds_toArray, List.set_cons_zero, List.set_cons_succ]) | (refine plan_pass2 rfl rfl ?_; simp only [List.getElem_toArray, List.getElem_cons_succ, List.getElem_cons_zero, Act.put, List.setIfInBounds_toArray, List.set_cons_zero, List.set_cons_succ]) | (refine plan_pass3 rfl rfl ?_; simp only [List.getElem_toArray, List.getElem_cons_succ, List.getElem_cons_zero, Act.put, List.setIfInBounds_toArray, List.set_cons_zero, List.set_cons_succ]) | (refine plan_take (v := ?_) rfl rfl ?_ ?_; rotate_left; (focus (intro w0; go_simp; try with_reducible rfl)); simp only [List.getElem_toArray, List.getElem_cons_succ, List.getElem_cons_zero, Act.put, List.setIfInBounds_toArray, List.set_cons_zero, List.set_cons_succ]) | fail )
        (refine plan_end rfl rfl rfl fun K hK => ?_; (try simp only [List.getElem_toArray, List.getElem_cons_succ, List.getElem_cons_zero]); go_simp; refine hK _ _ ?_; clear hK K; try simp only [List.getElem_toArray, List.getElem_cons_succ, List.getElem_cons_zero, Act.put, List.setIfInBounds_toArray, List.set_cons_zero, List.set_cons_succ])
        repeat (first | (refine plan_skip rfl rfl ?_; simp only [List.getElem_toArray, List.getElem_cons_succ, List.getElem_cons_zero, Act.put, List.setIfInBounds_toArray, List.set_cons_zero, List.set_cons_succ]) | (refine plan_pass2 rfl rfl ?_; simp only [List.getElem_toArray, List.getElem_cons_succ, List.getElem_cons_zero, Act.put, List.setIfInBounds_toArray, List.set_cons_zero, List.set_cons_succ]) | (refine plan_pass3 rfl rfl ?_; simp only [List.getElem_toArray, List.getElem_cons_succ, List.getElem_cons_zero, Act.put, List.setIfInBounds_toArray, List.set_cons_zero, List.set_cons_succ]) | (refine plan_take (v := ?_) rfl rfl ?_ ?_; rotate_left; (focus (intro w0; go_simp; try with_reducible rfl)); simp only [List.getElem_toArray, List.getElem_cons_succ, List.getElem_cons_zero, Act.put, List.setIfInBounds_toArray, List.set_cons_zero, List.set_cons_succ]) | fail )
        (refine plan_end rfl rfl rfl fun K hK => ?_; (try simp only [List.getElem_toArray, List.getElem_cons_succ, List.getElem_cons_zero]); go_simp; refine hK _ _ ?_; clear hK K; try simp only [List.getElem_toArray, List.getElem_cons_succ, List.getElem_cons_zero, Act.put, List.setIfInBounds_toArray, List.set_cons_zero, List.set_cons_succ])
        refine plan_nil ?_
        go_wp2
        go_ret
        refine ⟨by rw [EA.out]; rfl, ?_⟩
        rw [ES.out]
        exact ack_end p f s n w w1 k (s.bodies.length - k) d _ a1 cap1 (s.bodies.drop k) hok hp hn0 hn1 (by omega) rfl rfl ED.out (Mod.ofDrew HM1.out) HB1.out HR1.out
end Go.Proofs.Ytidkapanpieflaa
