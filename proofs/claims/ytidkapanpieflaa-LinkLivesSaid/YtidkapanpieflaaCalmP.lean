/- LinkCalm: the plain law: one end, one hub; what is sent comes, for some rounds. -/
import Derived.Test.YtidkapanpieflaaHubT
import Derived.Test.YtidkapanpieflaaHubH
import Derived.Test.YtidkapanpieflaaLife5
import Derived.Test.YtidkapanpieflaaOrdRel
namespace Go.Proofs.Ytidkapanpieflaa
set_option linter.unusedVariables false
set_option linter.unusedSimpArgs false
/-- an end and a hub, and how much was heard -/
structure CS where
  E : Life
  l : List Life
  G : Int → Option Int
  heard : Nat
/-- the hub hears a message; what it answers comes to the end -/
def CS.hear (S : CS) (m : MsgV) : CS := ⟨(hubHear S.l S.G m).2.2.1.foldl (fun E o => (E.ehear o).2.2) S.E, (hubHear S.l S.G m).2.2.2, S.G, (if (hubHear S.l S.G m).1 then 0 else S.heard) + (hubHear S.l S.G m).2.1.length⟩
def CS.all (S : CS) (ms : List MsgV) : CS := ms.foldl CS.hear S
/-- what the end sends -/
def Life.round (L : Life) : List MsgV := L.sends ++ L.sent.beat
def hubRound (l : List Life) : List MsgV := l.flatMap Life.sends ++ beats (l.map Life.sent)
def Life.hearAll (L : Life) (ms : List MsgV) : Life := ms.foldl (fun E o => (E.ehear o).2.2) L
def epc (e0 : Int) (c : Nat) : Int := Sr.add e0 c
theorem epc_gap (e0 : Int) {a b : Nat} (h : a < b) (hb : b ≤ 100000) : 0 < Sr.gap (epc e0 a) (epc e0 b) := by
  unfold epc Sr.gap Sr.add
  split <;> omega
theorem epc_same (x : Int) : ¬ 0 < Sr.gap x x := by unfold Sr.gap; split <;> omega
theorem epc_inj (e0 : Int) {a b : Nat} (ha : a ≤ 100000) (hb : b ≤ 100000) (h : epc e0 a = epc e0 b) : a = b := by
  unfold epc Sr.add at h; omega
theorem epc_succ (e0 : Int) (c : Nat) : Sr.add (epc e0 c) 1 = epc e0 (c + 1) := by unfold epc Sr.add; omega
/-- who it is, in which life -/
structure Eid (e0 : Int) (E : Life) (c : Nat) : Prop where
  node : E.node = 1
  up : E.up = true
  ep : E.epoch = epc e0 c
  inn : E.inn = ⟨0, 8, []⟩
structure Hq (H : Life) : Prop where
  node : H.node = 1
  up : H.up = false
  out : H.out = ⟨0, [], 0, 8⟩
def Older (e0 x : Int) (c : Nat) : Prop := ∃ b, b < c ∧ x = epc e0 b
theorem Older.next {e0 x : Int} {c : Nat} (h : Older e0 x c) : Older e0 x (c + 1) := by obtain ⟨b, h1, h2⟩ := h; exact ⟨b, by omega, h2⟩
theorem Older.gap {e0 x : Int} {c : Nat} (h : Older e0 x c) (hc : c ≤ 100000) : 0 < Sr.gap x (epc e0 c) := by obtain ⟨b, h1, rfl⟩ := h; exact epc_gap e0 h1 hc
def xB : ByteArray := ⟨#[120]⟩
/-- the hub does not know this life yet -/
structure P0 (e0 : Int) (S : CS) (ups : List ByteArray) (c t : Nat) : Prop where
  id : Eid e0 S.E c
  ord : Ord 0 S.E.out ⟨0, 8, []⟩ ups 0 t 0
  gone : ∀ g, S.G 1 = some g → Older e0 g c
  hub : S.l = [] ∨ ∃ H, S.l = [H] ∧ Hq H ∧ Older e0 H.epoch c
/-- the hub knows this life -/
structure P1 (e0 : Int) (S : CS) (ups : List ByteArray) (c d t e : Nat) (H : Life) : Prop where
  id : Eid e0 S.E c
  gone : ∀ g, S.G 1 = some g → Older e0 g c
  hub : S.l = [H]
  hq : Hq H
  hep : H.epoch = epc e0 c
  ord : Ord 0 S.E.out H.inn ups d t e
  ok : H.inn.Ok
  heard : S.heard = e
  w8 : S.E.out.wide = 8
/-- the hub has dropped this life -/
structure P2 (e0 : Int) (S : CS) (c : Nat) : Prop where
  id : Eid e0 S.E c
  hub : S.l = []
  gone : S.G 1 = some (epc e0 c)
/-- a message of the end's, in life c -/
structure Mid (e0 : Int) (m : MsgV) (c : Nat) : Prop where
  node : m.node = 1
  up : m.up = true
  ep : m.epoch = epc e0 c
  kind : m.kind = 1 ∨ m.kind = 2
  ack : m.ack = 0
theorem round_mid {e0 : Int} {E : Life} {c : Nat} (h : Eid e0 E c) : ∀ m ∈ E.round, Mid e0 m c := fun m hm => by
  have hn : E.inn.next = 0 := by rw [h.inn]
  unfold Life.round at hm
  rcases List.mem_append.1 hm with hm | hm
  · obtain ⟨p, _, rfl⟩ := List.mem_map.1 hm
    exact ⟨h.node, h.up, h.ep, .inr rfl, hn⟩
  · rw [Life.beat_eq] at hm
    rcases List.mem_cons.1 hm with rfl | hm
    · exact ⟨h.node, h.up, h.ep, .inl rfl, hn⟩
    · obtain ⟨p, _, rfl⟩ := List.mem_map.1 hm
      exact ⟨h.node, h.up, h.ep, .inr rfl, hn⟩
theorem ack_quiet (x : Int) : (⟨0, [], 0, 8⟩ : Snd).ack x = ⟨0, [], 0, 8⟩ := by
  have h : (⟨0, [], 0, 8⟩ : Snd).acked x = 0 := by
    unfold Snd.acked
    split
    · simp_all
    · rfl
  unfold Snd.ack
  rw [if_pos h]
/-- what a quiet life of the hub hears -/
theorem quiet_hear {H : Life} (h : Hq H) (m : MsgV) : (H.hear m).2 = { H with inn := (if m.kind = 2 then (H.inn.take ⟨m.seq, m.body⟩).2 else H.inn) } ∧ (H.hear m).1 = (if m.kind = 2 then (H.inn.take ⟨m.seq, m.body⟩).1 else []) := by
  unfold Life.hear
  by_cases hk : m.kind = 2
  · rw [if_pos hk, if_pos hk, if_pos hk]
    exact ⟨by rw [h.out, ack_quiet], rfl⟩
  · rw [if_neg hk, if_neg hk, if_neg hk]
    exact ⟨by rw [h.out, ack_quiet, ← h.out], rfl⟩
theorem quiet_fresh (ep : Int) : Hq (Life.fresh 1 false ep) := ⟨rfl, rfl, rfl⟩
theorem hput_one {x y : Life} (h : x.node = y.node) : hput Life.node [x] y = [y] := by
  unfold hput
  rw [List.filter_cons, List.filter_cons, if_neg (by simp; omega), if_neg (by simp; omega)]
  rfl
theorem hput_nil (y : Life) : hput Life.node [] y = [y] := rfl
theorem hfind_one {H : Life} (h : H.node = 1) : hfind Life.node [H] 1 = some H := by unfold hfind; simp [h]
/-- in phase 2: a refusal -/
theorem hear_p2 {e0 : Int} {l : List Life} {G : Int → Option Int} {m : MsgV} {c : Nat} (hm : Mid e0 m c) (hg : G 1 = some (epc e0 c)) : hubHear l G m = (false, [], [m.refuse], l) := by
  unfold hubHear
  rw [if_neg (by rw [hm.up]; rcases hm.kind with h | h <;> rw [h] <;> simp), if_pos]
  rw [hm.node, hg, hm.ep]
  simpa using epc_same (epc e0 c)
theorem not_gone {e0 : Int} {G : Int → Option Int} {m : MsgV} {c : Nat} (hc : c ≤ 100000) (hm : Mid e0 m c) (hg : ∀ g, G 1 = some g → Older e0 g c) : ¬ (G m.node).any (fun e => !decide (0 < Sr.gap e m.epoch)) = true := by
  rw [hm.node, hm.ep]
  cases h : G 1 with
  | none => simp
  | some g => have := (hg g h).gap hc; simp [this]
theorem deaf_no {m : MsgV} {e0 : Int} {c : Nat} (hm : Mid e0 m c) : ¬ (m.up = false ∨ (m.kind ≠ 1 ∧ m.kind ≠ 2)) := by rw [hm.up]; rcases hm.kind with h | h <;> rw [h] <;> simp
theorem hear_p0 {e0 : Int} {l : List Life} {G : Int → Option Int} {m : MsgV} {c : Nat} (hc : c ≤ 100000) (hm : Mid e0 m c) (hg : ∀ g, G 1 = some g → Older e0 g c) (hl : l = [] ∨ ∃ H, l = [H] ∧ Hq H ∧ Older e0 H.epoch c) :
    hubHear l G m = (true, ((Life.fresh 1 false (epc e0 c)).hear m).1, [], [((Life.fresh 1 false (epc e0 c)).hear m).2]) := by
  have hn : hubNew l m = (true, ((Life.fresh 1 false (epc e0 c)).hear m).1, [], [((Life.fresh 1 false (epc e0 c)).hear m).2]) := by
    unfold hubNew
    rw [hm.node, hm.ep]
    rcases hl with rfl | ⟨H, rfl, hq, _⟩
    · rfl
    · rw [hput_one (by rw [hq.node, Life.hear_node]; rfl)]
  unfold hubHear
  rw [if_neg (deaf_no hm), if_neg (not_gone hc hm hg), hm.node]
  rcases hl with rfl | ⟨H, rfl, hq, ho⟩
  · exact hn
  · rw [hfind_one hq.node]
    show (if 0 < Sr.gap H.epoch m.epoch then _ else _) = _
    rw [hm.ep, if_pos (ho.gap hc)]
    exact hn
theorem hear_p1 {e0 : Int} {H : Life} {G : Int → Option Int} {m : MsgV} {c : Nat} (hc : c ≤ 100000) (hm : Mid e0 m c) (hg : ∀ g, G 1 = some g → Older e0 g c) (hq : Hq H) (he : H.epoch = epc e0 c) :
    hubHear [H] G m = (false, (H.hear m).1, [], [(H.hear m).2]) := by
  unfold hubHear
  rw [if_neg (deaf_no hm), if_neg (not_gone hc hm hg), hm.node, hfind_one hq.node]
  show (if 0 < Sr.gap H.epoch m.epoch then _ else _) = _
  rw [hm.ep, he, if_neg (epc_same _), if_neg (fun h => h rfl), hput_one (by rw [Life.hear_node])]
theorem Rcv.Ok.drainOk : ∀ (n : Nat) (r : Rcv), r.Ok → (r.drain n).2.Ok
  | 0, r, h => h
  | n + 1, r, h => by
    unfold Rcv.drain
    split
    · exact h
    · exact Rcv.Ok.drainOk n _ h.step
theorem Rcv.Ok.takeOk {r : Rcv} (h : r.Ok) {p : Pkt} (h0 : 0 ≤ p.seq) (h1 : p.seq < 4294967296) : (r.take p).2.Ok := by
  unfold Rcv.take
  split
  · exact Rcv.Ok.drainOk _ _ (h.put h0 h1 (by assumption))
  · exact h
/-- a message of the end's that bears a body of the stream, or none -/
def Bears' (m : MsgV) (ups : List ByteArray) (t : Nat) : Prop := m.kind = 1 ∨ ∃ i, i < t ∧ m.kind = 2 ∧ (⟨m.seq, m.body⟩ : Pkt) = pk 0 ups i
/-- one message, where the life is known -/
theorem p1_hear {e0 : Int} {S : CS} {ups : List ByteArray} {c d t e : Nat} {H : Life} (h : P1 e0 S ups c d t e H) (hc : c ≤ 100000) {m : MsgV} (hm : Mid e0 m c) (hb : Bears' m ups t) :
    ∃ e' H', P1 e0 (S.hear m) ups c d t e' H' ∧ (S.hear m).E = S.E ∧ (S.hear m).G = S.G ∧ e ≤ e' ∧ (∀ p ∈ H.inn.held, p ∈ H'.inn.held ∨ ∃ j, j < e' ∧ p = pk 0 ups j) ∧ (∀ i, m.kind = 2 → (⟨m.seq, m.body⟩ : Pkt) = pk 0 ups i → i < t → pk 0 ups i ∈ H'.inn.held ∨ i < e') := by
  have hh := hear_p1 (G := S.G) hc hm h.gone h.hq h.hep
  have hS : S.hear m = ⟨S.E, [(H.hear m).2], S.G, S.heard + (H.hear m).1.length⟩ := by
    unfold CS.hear
    rw [h.hub, hh]
    rfl
  obtain ⟨q1, q2⟩ := quiet_hear h.hq m
  rcases hb with hk | ⟨i, hi, hk, hp⟩
  · have hk2 : ¬ m.kind = 2 := by rw [hk]; decide
    rw [if_neg hk2] at q1 q2
    rw [hS, q1, q2]
    exact ⟨e, H, ⟨h.id, h.gone, rfl, h.hq, h.hep, h.ord, h.ok, by simpa using h.heard, h.w8⟩, rfl, rfl, Nat.le_refl _, fun p hp => .inl hp, fun i hk' => absurd hk' hk2⟩
  · rw [if_pos hk] at q1 q2
    rw [hp] at q1 q2
    obtain ⟨k, h1, h2, h3, h4⟩ := h.ord.take h.ok hi
    have hseq : 0 ≤ (pk 0 ups i).seq ∧ (pk 0 ups i).seq < 4294967296 := Sr.add_bd _ _
    rw [hS, q1, q2]
    have hlen : (H.inn.take (pk 0 ups i)).1.length = k := by
      have hke := h2.et
      have htl := h2.tl
      rw [h1, List.length_take, List.length_drop]
      omega
    refine ⟨e + k, { H with inn := (H.inn.take (pk 0 ups i)).2 }, ⟨h.id, h.gone, rfl, ⟨h.hq.node, h.hq.up, h.hq.out⟩, h.hep, h2, h.ok.takeOk hseq.1 hseq.2, ?_, h.w8⟩, rfl, rfl, by omega, h3, fun j _ hpj hjt => ?_⟩
    · show S.heard + (H.inn.take (pk 0 ups i)).1.length = e + k
      rw [hlen, h.heard]
    · have hij : i = j := by
        have hn := h.ord.n
        have htl := h.ord.tl
        rw [hp] at hpj
        have := congrArg Pkt.seq hpj
        exact pk_inj (a := 0) (by omega) (by omega) this
      subst hij
      exact h4
theorem pk_of_seen {ups : List ByteArray} {x : Pkt} {H H' : List Pkt} {e e' i : Nat} (hc : ∀ p ∈ H, p ∈ H' ∨ ∃ j, j < e' ∧ p = pk 0 ups j) (he : e ≤ e') (hn : i < 1000000) (hb : ∀ j, j < e' → j < 1000000) (h : pk 0 ups i ∈ H ∨ i < e) : pk 0 ups i ∈ H' ∨ i < e' := by
  rcases h with h | h
  · rcases hc _ h with h | ⟨j, hj, hp⟩
    · exact .inl h
    · have := pk_inj (a := 0) hn (hb j hj) (congrArg Pkt.seq hp)
      exact .inr (by omega)
  · exact .inr (by omega)
/-- some messages, where the life is known -/
theorem p1_all {e0 : Int} {ups : List ByteArray} {c d t : Nat} (hc : c ≤ 100000) : ∀ (ms : List MsgV) (S : CS) (e : Nat) (H : Life), P1 e0 S ups c d t e H → (∀ m ∈ ms, Mid e0 m c ∧ Bears' m ups t) →
    ∃ e' H', P1 e0 (S.all ms) ups c d t e' H' ∧ (S.all ms).E = S.E ∧ (S.all ms).G = S.G ∧ e ≤ e' ∧ (∀ p ∈ H.inn.held, p ∈ H'.inn.held ∨ ∃ j, j < e' ∧ p = pk 0 ups j) ∧ (∀ i, i < t → (∃ m ∈ ms, m.kind = 2 ∧ (⟨m.seq, m.body⟩ : Pkt) = pk 0 ups i) → pk 0 ups i ∈ H'.inn.held ∨ i < e')
  | [], S, e, H, h, _ => ⟨e, H, h, rfl, rfl, Nat.le_refl _, fun p hp => .inl hp, fun i hi ⟨m, hm, _⟩ => (by cases hm)⟩
  | m :: ms, S, e, H, h, hms => by
    obtain ⟨hm1, hm2⟩ := hms m List.mem_cons_self
    obtain ⟨e1, H1, h1, a1, a2, a3, a4, a5⟩ := p1_hear h hc hm1 hm2
    obtain ⟨e2, H2, h2, b1, b2, b3, b4, b5⟩ := p1_all hc ms (S.hear m) e1 H1 h1 fun x hx => hms x (List.mem_cons_of_mem _ hx)
    have hn := h.ord.n
    have htl := h.ord.tl
    have he2 := h2.ord.et
    have he1 := h1.ord.et
    refine ⟨e2, H2, h2, b1.trans a1, b2.trans a2, Nat.le_trans a3 b3, fun p hp => ?_, fun i hi ⟨x, hx, hk, hp⟩ => ?_⟩
    · rcases a4 p hp with h | ⟨j, hj, hp⟩
      · exact b4 p h
      · exact .inr ⟨j, by omega, hp⟩
    · rcases List.mem_cons.1 hx with rfl | hx
      · exact pk_of_seen (x := pk 0 ups i) b4 b3 (by omega) (fun j hj => by omega) (a5 i hk hp hi)
      · exact b5 i hi ⟨x, hx, hk, hp⟩
/-- where the life is not known yet, the first message is heard as if it were, just now -/
theorem p0_first {e0 : Int} {S : CS} {ups : List ByteArray} {c t : Nat} (h : P0 e0 S ups c t) (hc : c ≤ 100000) {m : MsgV} (hm : Mid e0 m c) :
    P1 e0 { S with l := [Life.fresh 1 false (epc e0 c)], heard := 0 } ups c 0 t 0 (Life.fresh 1 false (epc e0 c)) ∧ S.hear m = CS.hear { S with l := [Life.fresh 1 false (epc e0 c)], heard := 0 } m := by
  have hP : P1 e0 { S with l := [Life.fresh 1 false (epc e0 c)], heard := 0 } ups c 0 t 0 (Life.fresh 1 false (epc e0 c)) :=
    ⟨h.id, h.gone, rfl, quiet_fresh _, rfl, h.ord, ⟨Int.le_refl 0, (show (0 : Int) < 4294967296 by decide), (show 1 ≤ 8 by decide), (show 8 ≤ 64 by decide), List.nodup_nil, fun p hp => (by cases hp)⟩, rfl, h.ord.wide.symm⟩
  refine ⟨hP, ?_⟩
  have e2 := hear_p1 (H := Life.fresh 1 false (epc e0 c)) (G := S.G) hc hm h.gone (quiet_fresh _) rfl
  unfold CS.hear
  rw [hear_p0 hc hm h.gone h.hub]
  dsimp only
  rw [e2]
  simp
theorem sent_eid {e0 : Int} {E : Life} {c : Nat} (h : Eid e0 E c) : Eid e0 E.sent c := ⟨h.node, h.up, h.ep, h.inn⟩
/-- what a round of an end's bears -/
theorem round_bears {e0 : Int} {E : Life} {r : Rcv} {ups : List ByteArray} {c d t e : Nat} (hi : Eid e0 E c) (h : Ord 0 E.out r ups d t e) :
    (∀ m ∈ E.round, Mid e0 m c ∧ Bears' m ups (Ord.up E.out ups d)) ∧ (∀ i, d ≤ i → i < Ord.up E.out ups d → ∃ m ∈ E.round, m.kind = 2 ∧ (⟨m.seq, m.body⟩ : Pkt) = pk 0 ups i) := by
  obtain ⟨h1, h2, h3⟩ := h.send
  have h4 := h2.again
  constructor
  · intro m hm
    refine ⟨round_mid hi m hm, ?_⟩
    unfold Life.round at hm
    rcases List.mem_append.1 hm with hm | hm
    · obtain ⟨p, hp, rfl⟩ := List.mem_map.1 hm
      rw [h3] at hp
      obtain ⟨j, hj, rfl⟩ := List.mem_map.1 hp
      exact .inr ⟨t + j, by have := List.mem_range.1 hj; omega, rfl, rfl⟩
    · rw [Life.beat_eq] at hm
      rcases List.mem_cons.1 hm with rfl | hm
      · exact .inl rfl
      · obtain ⟨p, hp, rfl⟩ := List.mem_map.1 hm
        change p ∈ E.out.send.again at hp
        rw [h4] at hp
        obtain ⟨j, hj, rfl⟩ := List.mem_map.1 hp
        exact .inr ⟨d + j, by have := List.mem_range.1 hj; omega, rfl, rfl⟩
  · intro i hd hi
    refine ⟨E.sent.body (pk 0 ups i), ?_, rfl, rfl⟩
    unfold Life.round
    rw [Life.beat_eq]
    refine List.mem_append.2 (.inr (List.mem_cons_of_mem _ (List.mem_map.2 ⟨pk 0 ups i, ?_, rfl⟩)))
    show _ ∈ E.out.send.again
    rw [h4]
    exact List.mem_map.2 ⟨i - d, List.mem_range.2 (by omega), by rw [show d + (i - d) = i by omega]⟩
/-- the hub hears all that an end sends: then it has all of it -/
theorem p1_round {e0 : Int} {S : CS} {ups : List ByteArray} {c d t e : Nat} {H : Life} (hc : c ≤ 100000) (h : P1 e0 S ups c d t e H) :
    ∃ H', P1 e0 (CS.all { S with E := S.E.sent } S.E.round) ups c d (Ord.up S.E.out ups d) (Ord.up S.E.out ups d) H' := by
  obtain ⟨hb, hcov⟩ := round_bears h.id h.ord
  obtain ⟨_, h2, _⟩ := h.ord.send
  have hP : P1 e0 { S with E := S.E.sent } ups c d (Ord.up S.E.out ups d) e H := ⟨sent_eid h.id, h.gone, h.hub, h.hq, h.hep, h2, h.ok, h.heard, h.w8⟩
  obtain ⟨e', H', h3, _, _, _, _, h4⟩ := p1_all hc S.E.round _ e H hP hb
  have he : e' = Ord.up S.E.out ups d := h3.ord.all fun i hd hi => h4 i hi (hcov i hd hi)
  rw [he] at h3
  exact ⟨H', h3⟩
theorem round_ne (E : Life) : ∃ m ms, E.round = m :: ms := by
  cases h : E.round with
  | nil =>
    have := congrArg List.length h
    unfold Life.round at this
    rw [Life.beat_eq] at this
    simp at this
  | cons m ms => exact ⟨m, ms, rfl⟩
theorem p0_round {e0 : Int} {S : CS} {ups : List ByteArray} {c t : Nat} (hc : c ≤ 100000) (h : P0 e0 S ups c t) :
    ∃ H', P1 e0 (CS.all { S with E := S.E.sent } S.E.round) ups c 0 (Ord.up S.E.out ups 0) (Ord.up S.E.out ups 0) H' := by
  obtain ⟨hb, hcov⟩ := round_bears h.id h.ord
  obtain ⟨_, h2, _⟩ := h.ord.send
  have hP : P0 e0 { S with E := S.E.sent } ups c (Ord.up S.E.out ups 0) := ⟨sent_eid h.id, h2, h.gone, h.hub⟩
  obtain ⟨m, ms, hms⟩ := round_ne S.E
  rw [hms] at hb hcov ⊢
  obtain ⟨hP1, he⟩ := p0_first hP hc (hb m List.mem_cons_self).1
  have hall : CS.all { S with E := S.E.sent } (m :: ms) = CS.all { S with E := S.E.sent, l := [Life.fresh 1 false (epc e0 c)], heard := 0 } (m :: ms) := by
    show CS.all (CS.hear _ m) ms = CS.all (CS.hear _ m) ms
    rw [he]
  rw [hall]
  obtain ⟨e', H', h3, _, _, _, _, h4⟩ := p1_all hc (m :: ms) _ 0 _ hP1 hb
  have he : e' = Ord.up S.E.out ups 0 := h3.ord.all fun i hd hi => h4 i hi (hcov i hd hi)
  rw [he] at h3
  exact ⟨H', h3⟩
end Go.Proofs.Ytidkapanpieflaa
