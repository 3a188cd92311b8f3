/- LinkCalm: the plain law, round by round. -/
import Derived.Test.YtidkapanpieflaaCalmP
namespace Go.Proofs.Ytidkapanpieflaa
set_option linter.unusedVariables false
set_option linter.unusedSimpArgs false
theorem next_eid {e0 : Int} {E : Life} {c : Nat} (h : Eid e0 E c) : Eid e0 E.next (c + 1) := ⟨h.node, rfl, by show Sr.add E.epoch 1 = _; rw [h.ep, epc_succ], rfl⟩
theorem next_p0 {e0 : Int} {E : Life} {c : Nat} (h : Eid e0 E c) (l : List Life) (G : Int → Option Int) (hd : Nat) (hg : ∀ g, G 1 = some g → Older e0 g (c + 1)) (hl : l = [] ∨ ∃ H, l = [H] ∧ Hq H ∧ Older e0 H.epoch (c + 1)) : P0 e0 ⟨E.next, l, G, hd⟩ [] (c + 1) 0 :=
  ⟨next_eid h, Ord.start (a := 0) (w := 8) (by decide) (by decide) (by decide) (by decide), hg, hl⟩
theorem deaf_refuse {e0 : Int} {E : Life} {m : MsgV} {c c' : Nat} (hc : c ≤ 100000) (hc' : c' ≤ 100000) (hm : Mid e0 m c) (h : Eid e0 E c') (hne : c' ≠ c) : (E.ehear m.refuse).2.2 = E := by
  unfold Life.ehear
  rw [if_pos]
  right; right; left
  show m.epoch ≠ E.epoch
  rw [hm.ep, h.ep]
  exact fun e => hne (epc_inj e0 hc hc' e).symm
theorem take_refuse {e0 : Int} {E : Life} {m : MsgV} {c : Nat} (hm : Mid e0 m c) (h : Eid e0 E c) : (E.ehear m.refuse).2.2 = E.next := by
  unfold Life.ehear
  rw [if_neg, if_pos (show m.refuse.kind = 3 from rfl)]
  intro hd
  rcases hd with h1 | h1 | h1 | h1 | h1
  · cases h1
  · exact h1 (by show m.node = E.node; rw [hm.node, h.node])
  · exact h1 (by show m.epoch = E.epoch; rw [hm.ep, h.ep])
  · exact absurd h1 (by show ¬ (3 : Int) < 1; decide)
  · exact absurd h1 (by show ¬ (3 : Int) < 3; decide)
theorem p2_late {e0 : Int} {G : Int → Option Int} {c : Nat} (hc : c + 1 ≤ 100000) (hg : G 1 = some (epc e0 c)) (hd : Nat) {E : Life} (hE : Eid e0 E (c + 1)) : ∀ ms : List MsgV, (∀ m ∈ ms, Mid e0 m c) → CS.all ⟨E, [], G, hd⟩ ms = ⟨E, [], G, hd⟩
  | [], _ => rfl
  | m :: ms, h => by
    have hm := h m List.mem_cons_self
    have e : CS.hear ⟨E, [], G, hd⟩ m = ⟨E, [], G, hd⟩ := by
      unfold CS.hear
      rw [hear_p2 hm hg]
      show (⟨(E.ehear m.refuse).2.2, [], G, hd + 0⟩ : CS) = _
      rw [deaf_refuse (by omega) hc hm hE (by omega)]
      rfl
    show CS.all (CS.hear ⟨E, [], G, hd⟩ m) ms = _
    rw [e]
    exact p2_late hc hg hd hE ms fun x hx => h x (List.mem_cons_of_mem _ hx)
theorem p2_round {e0 : Int} {S : CS} {c : Nat} (hc : c + 1 ≤ 100000) (h : P2 e0 S c) : ∃ hd, CS.all { S with E := S.E.sent } S.E.round = ⟨S.E.sent.next, [], S.G, hd⟩ := by
  have hmid := round_mid h.id
  obtain ⟨m, ms, hms⟩ := round_ne S.E
  rw [hms] at hmid ⊢
  have hm := hmid m List.mem_cons_self
  have e : CS.hear { S with E := S.E.sent } m = ⟨S.E.sent.next, [], S.G, S.heard⟩ := by
    unfold CS.hear
    show (⟨_, _, _, _⟩ : CS) = _
    rw [h.hub, hear_p2 hm h.gone]
    show (⟨(S.E.sent.ehear m.refuse).2.2, [], S.G, S.heard + 0⟩ : CS) = _
    rw [take_refuse hm (sent_eid h.id)]
    rfl
  refine ⟨S.heard, ?_⟩
  show CS.all (CS.hear _ m) ms = _
  rw [e]
  exact p2_late hc h.gone _ (next_eid (sent_eid h.id)) ms fun x hx => hmid x (List.mem_cons_of_mem _ hx)
/-- what the hub then sends: a hello, or nothing -/
theorem hubRound_nil : hubRound [] = [] := rfl
theorem Hq.sent {H : Life} (h : Hq H) : H.sent = H ∧ H.sends = [] ∧ H.agains = [] := by
  obtain ⟨n, u, ep, o, i⟩ := H
  have ho : o = ⟨0, [], 0, 8⟩ := h.out
  subst ho
  exact ⟨rfl, rfl, rfl⟩
theorem hubRound_one {H : Life} (h : Hq H) : hubRound [H] = [H.hello] := by
  obtain ⟨h1, h2, h3⟩ := h.sent
  unfold hubRound beats
  simp [h1, h2, h3]
theorem ack_wide (s : Snd) (x : Int) : (s.ack x).wide = s.wide := by unfold Snd.ack; split <;> rfl
theorem push_wide (s : Snd) (b : ByteArray) : (s.push b).wide = s.wide := by unfold Snd.push; split <;> rfl
/-- the end hears the hub's hello -/
theorem p1_ack {e0 : Int} {S : CS} {ups : List ByteArray} {c d t e : Nat} {H : Life} (h : P1 e0 S ups c d t e H) : P1 e0 { S with E := S.E.hearAll [H.hello] } ups c (max d e) t e H := by
  have hh : (S.E.ehear H.hello).2.2 = { S.E with out := S.E.out.ack H.inn.next } := by
    unfold Life.ehear
    rw [if_neg, if_neg (show ¬ H.hello.kind = 3 by show ¬ (1 : Int) = 3; decide)]
    · show (S.E.hear H.hello).2 = _
      unfold Life.hear
      rw [if_neg (show ¬ H.hello.kind = 2 by show ¬ (1 : Int) = 2; decide)]
      rfl
    · intro hd
      rcases hd with h1 | h1 | h1 | h1 | h1
      · rw [show H.hello.up = H.up from rfl, h.hq.up] at h1; cases h1
      · exact h1 (by show H.node = S.E.node; rw [h.hq.node, h.id.node])
      · exact h1 (by show H.epoch = S.E.epoch; rw [h.hep, h.id.ep])
      · exact absurd h1 (by show ¬ (1 : Int) < 1; decide)
      · exact absurd h1 (by show ¬ (3 : Int) < 1; decide)
  obtain ⟨d', h1, rfl⟩ := h.ord.ack (i := e) (Nat.le_refl _)
  have hall : S.E.hearAll [H.hello] = { S.E with out := S.E.out.ack H.inn.next } := hh
  rw [hall, h.ord.next]
  exact ⟨⟨h.id.node, h.id.up, h.id.ep, h.id.inn⟩, h.gone, h.hub, h.hq, h.hep, h1, h.ok, h.heard, (ack_wide _ _).trans h.w8⟩
/- the steps of a round -/
def CS.push (S : CS) : CS := { S with E := { S.E with out := S.E.out.push xB } }
def CS.crash (S : CS) : CS := { S with E := S.E.next }
def CS.drop (S : CS) : CS := ⟨S.E, hdel Life.node S.l 1, ((hfind Life.node S.l 1).elim S.G fun L => fun k => if k = 1 then some L.epoch else S.G k), if (hfind Life.node S.l 1).isSome then 0 else S.heard⟩
def CS.mid (S : CS) (k : Int) : CS := if k = 2 ∨ k = 3 then CS.all { S with E := S.E.sent } S.E.round else { S with E := S.E.sent }
def CS.fin (S : CS) (k : Int) : CS := ⟨if k = 2 then S.E.hearAll (hubRound S.l) else S.E, S.l.map Life.sent, S.G, S.heard⟩
/-- a phase, with how many bodies were pushed in this life -/
def Phase (e0 : Int) (S : CS) (n c : Nat) : Prop := (∃ ups t, ups.length = n ∧ P0 e0 S ups c t) ∨ (∃ ups d t e H, ups.length = n ∧ P1 e0 S ups c d t e H) ∨ P2 e0 S c
/-- .. and how many calm rounds are enough -/
def PhaseM (e0 : Int) (S : CS) (n c left : Nat) : Prop := (∃ ups t, ups.length = n ∧ P0 e0 S ups c t ∧ n + 8 ≤ 8 * left) ∨ (∃ ups d t e H, ups.length = n ∧ P1 e0 S ups c d t e H ∧ n ≤ d + 8 * left) ∨ (P2 e0 S c ∧ 2 ≤ left)
theorem Phase.id {e0 : Int} {S : CS} {n c : Nat} (h : Phase e0 S n c) : Eid e0 S.E c := by
  rcases h with ⟨_, _, _, h⟩ | ⟨_, _, _, _, _, _, h⟩ | h <;> exact h.id
theorem Phase.measure {e0 : Int} {S : CS} {n c : Nat} (h : Phase e0 S n c) (hn : n ≤ 100) : PhaseM e0 S n c 20 := by
  rcases h with ⟨ups, t, h1, h⟩ | ⟨ups, d, t, e, H, h1, h⟩ | h
  · exact .inl ⟨ups, t, h1, h, by omega⟩
  · exact .inr (.inl ⟨ups, d, t, e, H, h1, h, by omega⟩)
  · exact .inr (.inr ⟨h, by omega⟩)
theorem PhaseM.phase {e0 : Int} {S : CS} {n c left : Nat} (h : PhaseM e0 S n c left) : Phase e0 S n c := by
  rcases h with ⟨ups, t, h1, h, _⟩ | ⟨ups, d, t, e, H, h1, h, _⟩ | ⟨h, _⟩
  · exact .inl ⟨ups, t, h1, h⟩
  · exact .inr (.inl ⟨ups, d, t, e, H, h1, h⟩)
  · exact .inr (.inr h)
theorem Phase.push {e0 : Int} {S : CS} {n c : Nat} (h : Phase e0 S n c) (hn : n < 900) : Phase e0 S.push (if S.E.out.full then n + 1 else n) c := by
  rcases h with ⟨ups, t, h1, h⟩ | ⟨ups, d, t, e, H, h1, h⟩ | h
  · obtain ⟨hf, ho⟩ := h.ord.push xB (by omega)
    rw [if_pos hf]
    exact .inl ⟨ups ++ [xB], t, by simp [h1], ⟨⟨h.id.node, h.id.up, h.id.ep, h.id.inn⟩, ho, h.gone, h.hub⟩⟩
  · obtain ⟨hf, ho⟩ := h.ord.push xB (by omega)
    rw [if_pos hf]
    exact .inr (.inl ⟨ups ++ [xB], d, t, e, H, by simp [h1], ⟨⟨h.id.node, h.id.up, h.id.ep, h.id.inn⟩, h.gone, h.hub, h.hq, h.hep, ho, h.ok, h.heard, (push_wide _ _).trans h.w8⟩⟩)
  · exact .inr (.inr ⟨⟨h.id.node, h.id.up, h.id.ep, h.id.inn⟩, h.hub, h.gone⟩)
theorem Phase.crash {e0 : Int} {S : CS} {n c : Nat} (h : Phase e0 S n c) : Phase e0 S.crash 0 (c + 1) := by
  rcases h with ⟨ups, t, h1, h⟩ | ⟨ups, d, t, e, H, h1, h⟩ | h
  · exact .inl ⟨[], 0, rfl, next_p0 h.id _ _ _ (fun g hg => (h.gone g hg).next) (h.hub.imp (fun x => x) fun ⟨H, a, b, o⟩ => ⟨H, a, b, o.next⟩)⟩
  · exact .inl ⟨[], 0, rfl, next_p0 h.id _ _ _ (fun g hg => (h.gone g hg).next) (.inr ⟨H, h.hub, h.hq, c, by omega, h.hep⟩)⟩
  · exact .inl ⟨[], 0, rfl, next_p0 h.id _ _ _ (fun g hg => ⟨c, by omega, by rw [h.gone] at hg; cases hg; rfl⟩) (.inl h.hub)⟩
theorem hdel_one {H : Life} (h : H.node = 1) : hdel Life.node [H] 1 = [] := by unfold hdel; simp [h]
theorem Phase.drop {e0 : Int} {S : CS} {n c : Nat} (h : Phase e0 S n c) : Phase e0 S.drop n c := by
  rcases h with ⟨ups, t, h1, h⟩ | ⟨ups, d, t, e, H, h1, h⟩ | h
  · refine .inl ⟨ups, t, h1, ⟨h.id, h.ord, fun g hg => ?_, .inl ?_⟩⟩
    · rcases h.hub with hl | ⟨H, hl, hq, ho⟩
      · unfold CS.drop at hg; rw [hl] at hg; exact h.gone g hg
      · unfold CS.drop at hg
        rw [hl] at hg
        simp only [hfind_one hq.node, Option.elim_some] at hg
        cases hg
        exact ho
    · show hdel Life.node S.l 1 = []
      rcases h.hub with hl | ⟨H, hl, hq, ho⟩
      · rw [hl]; rfl
      · rw [hl]; exact hdel_one hq.node
  · refine .inr (.inr ⟨h.id, ?_, ?_⟩)
    · show hdel Life.node S.l 1 = []
      rw [h.hub]; exact hdel_one h.hq.node
    · unfold CS.drop
      rw [h.hub]
      simp only [hfind_one h.hq.node, Option.elim_some, if_pos]
      rw [h.hep]
  · refine .inr (.inr ⟨h.id, ?_, ?_⟩)
    · show hdel Life.node S.l 1 = []
      rw [h.hub]; rfl
    · unfold CS.drop
      rw [h.hub]
      exact h.gone
/-- behind the hub's own sending nothing of it has changed -/
theorem Phase.hubSent {e0 : Int} {S : CS} {n c : Nat} (h : Phase e0 S n c) : S.l.map Life.sent = S.l := by
  rcases h with ⟨ups, t, h1, h⟩ | ⟨ups, d, t, e, H, h1, h⟩ | h
  · rcases h.hub with hl | ⟨H, hl, hq, ho⟩
    · rw [hl]; rfl
    · rw [hl, List.map_cons, List.map_nil, hq.sent.1]
  · rw [h.hub, List.map_cons, List.map_nil, h.hq.sent.1]
  · rw [h.hub]; rfl
theorem Phase.sent {e0 : Int} {S : CS} {n c : Nat} (h : Phase e0 S n c) : Phase e0 { S with E := S.E.sent } n c := by
  rcases h with ⟨ups, t, h1, h⟩ | ⟨ups, d, t, e, H, h1, h⟩ | h
  · obtain ⟨_, h2, _⟩ := h.ord.send
    exact .inl ⟨ups, _, h1, ⟨sent_eid h.id, h2, h.gone, h.hub⟩⟩
  · obtain ⟨_, h2, _⟩ := h.ord.send
    exact .inr (.inl ⟨ups, d, _, e, H, h1, ⟨sent_eid h.id, h.gone, h.hub, h.hq, h.hep, h2, h.ok, h.heard, h.w8⟩⟩)
  · exact .inr (.inr ⟨sent_eid h.id, h.hub, h.gone⟩)
/-- the hub has heard a round -/
def Calmed (e0 : Int) (S : CS) (n c : Nat) : Prop := (∃ ups t, ups.length = n ∧ P0 e0 S ups c t ∧ S.l = []) ∨ (∃ ups d t e H, ups.length = n ∧ P1 e0 S ups c d t e H)
theorem Calmed.phase {e0 : Int} {S : CS} {n c : Nat} (h : Calmed e0 S n c) : Phase e0 S n c := by
  rcases h with ⟨ups, t, h1, h, _⟩ | ⟨ups, d, t, e, H, h1, h⟩
  · exact .inl ⟨ups, t, h1, h⟩
  · exact .inr (.inl ⟨ups, d, t, e, H, h1, h⟩)
theorem Phase.midC {e0 : Int} {S : CS} {n c : Nat} (hc : c + 1 ≤ 100000) (h : Phase e0 S n c) {k : Int} (hk : k = 2 ∨ k = 3) : ∃ n' c', Calmed e0 (S.mid k) n' c' ∧ c ≤ c' ∧ c' ≤ c + 1 ∧ (c' = c → n' = n) ∧ (c' ≠ c → n' = 0) := by
  unfold CS.mid
  rw [if_pos hk]
  rcases h with ⟨ups, t, h1, h⟩ | ⟨ups, d, t, e, H, h1, h⟩ | h
  · obtain ⟨H', h2⟩ := p0_round (by omega) h
    exact ⟨n, c, .inr ⟨ups, _, _, _, H', h1, h2⟩, Nat.le_refl _, by omega, fun _ => rfl, fun h => absurd rfl h⟩
  · obtain ⟨H', h2⟩ := p1_round (by omega) h
    exact ⟨n, c, .inr ⟨ups, _, _, _, H', h1, h2⟩, Nat.le_refl _, by omega, fun _ => rfl, fun h => absurd rfl h⟩
  · obtain ⟨hd, h2⟩ := p2_round hc h
    rw [h2]
    exact ⟨0, c + 1, .inl ⟨[], 0, rfl, next_p0 (sent_eid h.id) _ _ _ (fun g hg => ⟨c, by omega, by rw [h.gone] at hg; cases hg; rfl⟩) (.inl rfl), rfl⟩, by omega, Nat.le_refl _, fun h => by omega, fun _ => rfl⟩
theorem Phase.mid {e0 : Int} {S : CS} {n c : Nat} (hc : c + 1 ≤ 100000) (h : Phase e0 S n c) (k : Int) : ∃ n' c', Phase e0 (S.mid k) n' c' ∧ (k = 2 → Calmed e0 (S.mid k) n' c') ∧ c ≤ c' ∧ c' ≤ c + 1 ∧ (c' = c → n' = n) ∧ (c' ≠ c → n' = 0) := by
  by_cases hk : k = 2 ∨ k = 3
  · obtain ⟨n', c', h1, h2⟩ := h.midC hc hk
    exact ⟨n', c', h1.phase, fun _ => h1, h2⟩
  · unfold CS.mid
    rw [if_neg hk]
    exact ⟨n, c, h.sent, fun h => absurd (.inl h) hk, Nat.le_refl _, by omega, fun _ => rfl, fun h => absurd rfl h⟩
theorem fin_same {S : CS} (hl : S.l.map Life.sent = S.l) {k : Int} (hk : k ≠ 2) : S.fin k = S := by
  unfold CS.fin
  rw [if_neg hk, hl]
/-- the end has heard the hub -/
theorem Phase.fin {e0 : Int} {S : CS} {n c : Nat} (h : Phase e0 S n c) (k : Int) (hw : k = 2 → Calmed e0 S n c) : Phase e0 (S.fin k) n c := by
  by_cases hk : k = 2
  · have hl := h.hubSent
    unfold CS.fin
    rw [if_pos hk, hl]
    rcases hw hk with ⟨ups, t, h1, h2, h3⟩ | ⟨ups, d, t, e, H, h1, h2⟩
    · rw [h3, hubRound_nil]
      exact .inl ⟨ups, t, h1, ⟨h2.id, h2.ord, h2.gone, .inl rfl⟩⟩
    · have := p1_ack h2
      rw [h2.hub, hubRound_one h2.hq]
      exact .inr (.inl ⟨ups, _, t, e, H, h1, ⟨this.id, this.gone, rfl, this.hq, this.hep, this.ord, this.ok, this.heard, this.w8⟩⟩)
  · rw [fin_same h.hubSent hk]
    exact h
/-- a calm round -/
theorem calm_step {e0 : Int} {S : CS} {n c left : Nat} (hc : c + 1 ≤ 100000) (h : PhaseM e0 S n c left) : ∃ n' c', PhaseM e0 ((S.mid 2).fin 2) n' c' (left - 1) ∧ c ≤ c' ∧ c' ≤ c + 1 ∧ (c' = c → n' = n) ∧ (c' ≠ c → n' = 0) := by
  have hfin : ∀ (T : CS) (ups : List ByteArray) (c d t e : Nat) (H : Life), P1 e0 T ups c d t e H → P1 e0 (T.fin 2) ups c (max d e) t e H := fun T ups c d t e H h2 => by
    have hl : T.l.map Life.sent = T.l := by rw [h2.hub, List.map_cons, List.map_nil, h2.hq.sent.1]
    have := p1_ack h2
    unfold CS.fin
    rw [if_pos rfl, hl, h2.hub, hubRound_one h2.hq]
    exact ⟨this.id, this.gone, rfl, this.hq, this.hep, this.ord, this.ok, this.heard, this.w8⟩
  have hmid : S.mid 2 = CS.all { S with E := S.E.sent } S.E.round := by unfold CS.mid; rw [if_pos (.inl rfl)]
  rw [hmid]
  rcases h with ⟨ups, t, h1, h, hm⟩ | ⟨ups, d, t, e, H, h1, h, hm⟩ | ⟨h, hm⟩
  · obtain ⟨H', h2⟩ := p0_round (by omega) h
    have hw : S.E.out.wide = 8 := h.ord.wide.symm
    refine ⟨n, c, .inr (.inl ⟨ups, _, _, _, H', h1, hfin _ _ _ _ _ _ _ h2, ?_⟩), Nat.le_refl _, by omega, fun _ => rfl, fun h => absurd rfl h⟩
    unfold Ord.up
    rw [hw, h1]
    omega
  · obtain ⟨H', h2⟩ := p1_round (by omega) h
    have hd := h.ord.dt
    have ht := h.ord.tl
    refine ⟨n, c, .inr (.inl ⟨ups, _, _, _, H', h1, hfin _ _ _ _ _ _ _ h2, ?_⟩), Nat.le_refl _, by omega, fun _ => rfl, fun h => absurd rfl h⟩
    unfold Ord.up
    rw [h.w8, h1]
    omega
  · obtain ⟨hd, h2⟩ := p2_round hc h
    rw [h2]
    refine ⟨0, c + 1, .inl ⟨[], 0, rfl, next_p0 (sent_eid h.id) _ _ _ (fun g hg => ⟨c, by omega, by rw [h.gone] at hg; cases hg; rfl⟩) (.inl rfl), by omega⟩, by omega, Nat.le_refl _, fun h => by omega, fun _ => rfl⟩
/-- what is true behind enough calm rounds -/
theorem calm_end {e0 : Int} {S : CS} {n c : Nat} (h : PhaseM e0 S n c 0) : ∃ H, S.l = [H] ∧ hfind Life.node S.l 1 = some H ∧ H.epoch = S.E.epoch ∧ S.heard = n ∧ S.E.out.bodies = [] := by
  rcases h with ⟨ups, t, h1, h, hm⟩ | ⟨ups, d, t, e, H, h1, h, hm⟩ | ⟨h, hm⟩
  · omega
  · have h2 := h.ord.dt
    have h3 := h.ord.tl
    have h4 := h.ord.de
    have h5 := h.ord.et
    refine ⟨H, h.hub, by rw [h.hub]; exact hfind_one h.hq.node, by rw [h.hep, h.id.ep], by rw [h.heard]; omega, ?_⟩
    rw [h.ord.bodies]
    exact List.drop_eq_nil_of_le (by omega)
  · omega
/-- the beginning -/
theorem calm_start (e0 : Int) (h0 : 0 ≤ e0) (h1 : e0 < 4294967296) : Phase e0 ⟨Life.fresh 1 true e0, [], fun _ => none, 0⟩ 0 0 := by
  refine .inl ⟨[], 0, rfl, ⟨⟨rfl, rfl, ?_, rfl⟩, Ord.start (a := 0) (w := 8) (by decide) (by decide) (by decide) (by decide), fun g hg => (by cases hg), .inl rfl⟩⟩
  show e0 = Sr.add e0 (0 : Nat)
  unfold Sr.add
  omega
end Go.Proofs.Ytidkapanpieflaa
