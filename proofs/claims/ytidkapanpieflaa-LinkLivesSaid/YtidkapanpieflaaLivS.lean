/- LinkLives: what the walk needs besides: the rows that are made anew, 'begin', a net that is cut, a rune's text. -/
import Derived.Test.YtidkapanpieflaaCalmT
import Derived.Test.YtidkapanpieflaaOwn
import Derived.Test.YtidkapanpieflaaAppR
namespace Go.Proofs.Ytidkapanpieflaa
set_option linter.unusedVariables false
set_option linter.unusedSimpArgs false
structure LS where
  E : Life
  l : List Life
  G : Int → Option Int
  net : List MsgV
  up : List ByteArray
  heard : List ByteArray
  down : List ByteArray
  told : List ByteArray
structure EidL (e0 : Int) (E : Life) (c : Nat) : Prop where
  node : E.node = 1
  up : E.up = true
  ep : E.epoch = epc e0 c
/-- a message on the net -/
structure MidL (e0 : Int) (c : Nat) (m : MsgV) : Prop where
  ok : m.Ok
  node : m.node = 1
  ep : ∃ b, b ≤ c ∧ m.epoch = epc e0 b
theorem MidL.next {e0 : Int} {c : Nat} {m : MsgV} (h : MidL e0 c m) : MidL e0 (c + 1) m := ⟨h.ok, h.node, by obtain ⟨b, h1, h2⟩ := h.ep; exact ⟨b, by omega, h2⟩⟩
theorem MidL.old {e0 : Int} {c : Nat} {m : MsgV} (h : MidL e0 c m) (hne : m.epoch ≠ epc e0 c) : Older e0 m.epoch c := by
  obtain ⟨b, h1, h2⟩ := h.ep
  refine ⟨b, ?_, h2⟩
  rcases Nat.lt_or_ge b c with h | h
  · exact h
  · exact absurd (by rw [h2, show b = c by omega]) hne
theorem epc_back (e0 : Int) {a b : Nat} (h : b ≤ a) (ha : a ≤ 100000) : ¬ 0 < Sr.gap (epc e0 a) (epc e0 b) := by
  unfold epc Sr.gap Sr.add
  split <;> omega
theorem Older.ne {e0 x : Int} {c : Nat} (h : Older e0 x c) (hc : c ≤ 100000) : x ≠ epc e0 c := by
  obtain ⟨b, h1, rfl⟩ := h
  exact fun e => by have := epc_inj e0 (by omega) hc e; omega
/-- what a packet of a message is; what it acknowledges -/
def Bears (m : MsgV) (l : List ByteArray) (t : Nat) : Prop := m.kind = 2 → ∃ j, j < t ∧ (⟨m.seq, m.body⟩ : Pkt) = pk 0 l j
def Acks (m : MsgV) (e : Nat) : Prop := ∃ i : Nat, i ≤ e ∧ m.ack = Sr.add 0 i
theorem Bears.mono {m : MsgV} {l : List ByteArray} {t t' : Nat} (h : Bears m l t) (ht : t ≤ t') : Bears m l t' := fun k => by obtain ⟨j, h1, h2⟩ := h k; exact ⟨j, by omega, h2⟩
theorem Bears.app {m : MsgV} {l : List ByteArray} {t : Nat} (h : Bears m l t) (ht : t ≤ l.length) (b : ByteArray) : Bears m (l ++ [b]) t := fun k => by obtain ⟨j, h1, h2⟩ := h k; exact ⟨j, h1, by rw [h2, pk_app (by omega)]⟩
theorem Acks.mono {m : MsgV} {e e' : Nat} (h : Acks m e) (he : e ≤ e') : Acks m e' := by obtain ⟨i, h1, h2⟩ := h; exact ⟨i, by omega, h2⟩
/-- the hub does not know this life yet -/
structure PA (e0 : Int) (S : LS) (c t : Nat) : Prop where
  id : EidL e0 S.E c
  inn : S.E.inn = ⟨0, 8, []⟩
  ord : Ord 0 S.E.out ⟨0, 8, []⟩ S.up 0 t 0
  gone : ∀ g, S.G 1 = some g → Older e0 g c
  hub : S.l = [] ∨ ∃ H, S.l = [H] ∧ H.node = 1 ∧ Older e0 H.epoch c
  told : S.told = []
  net : ∀ m ∈ S.net, MidL e0 c m ∧ (m.epoch = epc e0 c → m.up = true ∧ Acks m 0 ∧ Bears m S.up t)
/-- the hub knows this life -/
structure PB (e0 : Int) (S : LS) (c d t e d2 t2 e2 : Nat) (H : Life) : Prop where
  id : EidL e0 S.E c
  gone : ∀ g, S.G 1 = some g → Older e0 g c
  hub : S.l = [H]
  hn : H.node = 1
  hu : H.up = false
  he : H.epoch = epc e0 c
  o1 : Ord 0 S.E.out H.inn S.up d t e
  o2 : Ord 0 H.out S.E.inn S.down d2 t2 e2
  heard : S.heard = S.up.take e
  told : S.told = S.down.take e2
  net : ∀ m ∈ S.net, MidL e0 c m ∧ (m.epoch = epc e0 c → (m.up = true → Acks m e2 ∧ Bears m S.up t) ∧ (m.up = false → m.kind ≠ 3 ∧ Acks m e ∧ Bears m S.down t2))
/-- the hub has dropped this life -/
structure PC (e0 : Int) (S : LS) (c : Nat) : Prop where
  id : EidL e0 S.E c
  hub : S.l = []
  gone : S.G 1 = some (epc e0 c)
  net : ∀ m ∈ S.net, MidL e0 c m
def PhL (e0 : Int) (S : LS) (c : Nat) : Prop := (∃ t, PA e0 S c t) ∨ (∃ d t e d2 t2 e2 H, PB e0 S c d t e d2 t2 e2 H) ∨ PC e0 S c
section
variable {e0 : Int} {S : LS} {c : Nat}
theorem PhL.id (h : PhL e0 S c) : EidL e0 S.E c := by
  rcases h with ⟨_, h⟩ | ⟨_, _, _, _, _, _, _, h⟩ | h <;> exact h.id
theorem PhL.mid (h : PhL e0 S c) : ∀ m ∈ S.net, MidL e0 c m := by
  rcases h with ⟨_, h⟩ | ⟨_, _, _, _, _, _, _, h⟩ | h
  · exact fun m hm => (h.net m hm).1
  · exact fun m hm => (h.net m hm).1
  · exact h.net
theorem PhL.sub (h : PhL e0 S c) {ms : List MsgV} (hs : ∀ m ∈ ms, m ∈ S.net) : PhL e0 { S with net := ms } c := by
  rcases h with ⟨t, h⟩ | ⟨d, t, e, d2, t2, e2, H, h⟩ | h
  · exact .inl ⟨t, h.id, h.inn, h.ord, h.gone, h.hub, h.told, fun m hm => h.net m (hs m hm)⟩
  · exact .inr (.inl ⟨d, t, e, d2, t2, e2, H, h.id, h.gone, h.hub, h.hn, h.hu, h.he, h.o1, h.o2, h.heard, h.told, fun m hm => h.net m (hs m hm)⟩)
  · exact .inr (.inr ⟨h.id, h.hub, h.gone, fun m hm => h.net m (hs m hm)⟩)
theorem take_app {l : List ByteArray} {b : ByteArray} {e : Nat} (h : e ≤ l.length) : (l ++ [b]).take e = l.take e := List.take_append_of_le_length h
/- what is done -/
def LS.push (S : LS) (b : ByteArray) : LS := { S with E := { S.E with out := S.E.out.push b }, up := if S.E.out.full = true then S.up ++ [b] else S.up }
def LS.hpush (S : LS) (b : ByteArray) : LS := { S with l := (hfind Life.node S.l 1).elim S.l fun L => hput Life.node S.l { L with out := L.out.push b }, down := if ((hfind Life.node S.l 1).elim false fun L => L.out.full) = true then S.down ++ [b] else S.down }
def LS.esend (S : LS) : LS := { S with E := S.E.sent, net := S.net ++ S.E.sends }
def LS.hsend (S : LS) : LS := { S with l := S.l.map Life.sent, net := S.net ++ S.l.flatMap Life.sends }
def LS.ebeat (S : LS) : LS := { S with net := S.net ++ S.E.beat }
def LS.hbeat (S : LS) : LS := { S with net := S.net ++ beats S.l }
def LS.hub (S : LS) (m : MsgV) : LS :=
  { S with l := (hubHear S.l S.G m).2.2.2, heard := (if (hubHear S.l S.G m).1 = true then [] else S.heard) ++ (hubHear S.l S.G m).2.1, down := if (hubHear S.l S.G m).1 = true then [] else S.down, told := if (hubHear S.l S.G m).1 = true then [] else S.told, net := S.net ++ (hubHear S.l S.G m).2.2.1 }
def LS.ear (S : LS) (m : MsgV) : LS := { S with E := (S.E.ehear m).2.2, told := S.told ++ (S.E.ehear m).1 }
def LS.crash (S : LS) : LS := { S with E := S.E.next }
def LS.drop (S : LS) : LS := ⟨S.E, hdel Life.node S.l 1, (hfind Life.node S.l 1).elim S.G fun L => fun k => if k = 1 then some L.epoch else S.G k, S.net, S.up, [], [], []⟩
def LS.settle (was : Int) (S : LS) : LS := if S.E.epoch = was then S else { S with up := [], told := [] }
theorem LS.settle_same {was : Int} {S : LS} (h : S.E.epoch = was) : S.settle was = S := if_pos h
theorem PhL.push (h : PhL e0 S c) (b : ByteArray) (hn : S.up.length < 1000) : PhL e0 (S.push b) c := by
  rcases h with ⟨t, h⟩ | ⟨d, t, e, d2, t2, e2, H, h⟩ | h
  · obtain ⟨hf, ho⟩ := h.ord.push b hn
    unfold LS.push
    rw [if_pos hf]
    exact .inl ⟨t, ⟨h.id.node, h.id.up, h.id.ep⟩, h.inn, ho, h.gone, h.hub, h.told, fun m hm => ⟨(h.net m hm).1, fun e => ⟨((h.net m hm).2 e).1, ((h.net m hm).2 e).2.1, ((h.net m hm).2 e).2.2.app h.ord.tl b⟩⟩⟩
  · obtain ⟨hf, ho⟩ := h.o1.push b hn
    have het := h.o1.et
    have htl := h.o1.tl
    unfold LS.push
    rw [if_pos hf]
    exact .inr (.inl ⟨d, t, e, d2, t2, e2, H, ⟨h.id.node, h.id.up, h.id.ep⟩, h.gone, h.hub, h.hn, h.hu, h.he, ho, h.o2, by show S.heard = _; rw [h.heard, take_app (by omega)], h.told, fun m hm => ⟨(h.net m hm).1, fun e => ⟨fun u => ⟨(((h.net m hm).2 e).1 u).1, (((h.net m hm).2 e).1 u).2.app h.o1.tl b⟩, ((h.net m hm).2 e).2⟩⟩⟩)
  · exact .inr (.inr ⟨⟨h.id.node, h.id.up, h.id.ep⟩, h.hub, h.gone, h.net⟩)
theorem PhL.hpush (h : PhL e0 S c) (b : ByteArray) (hn : S.down.length < 1000) : PhL e0 (S.hpush b) c := by
  rcases h with ⟨t, h⟩ | ⟨d, t, e, d2, t2, e2, H, h⟩ | h
  · refine .inl ⟨t, h.id, h.inn, h.ord, h.gone, ?_, h.told, h.net⟩
    show (hfind Life.node S.l 1).elim S.l _ = [] ∨ _
    rcases h.hub with hl | ⟨H, hl, h1, h2⟩
    · rw [hl]; exact .inl rfl
    · refine .inr ⟨{ H with out := H.out.push b }, ?_, h1, h2⟩
      show (hfind Life.node S.l 1).elim S.l _ = _
      rw [hl, hfind_one h1]
      exact hput_one (x := H) (y := { H with out := H.out.push b }) rfl
  · obtain ⟨hf, ho⟩ := h.o2.push b hn
    have het := h.o2.et
    have htl := h.o2.tl
    have hd : (S.hpush b).down = S.down ++ [b] := by
      show (if _ = true then _ else _) = _
      rw [h.hub, hfind_one h.hn]
      exact if_pos hf
    have hl : (S.hpush b).l = [{ H with out := H.out.push b }] := by
      show (hfind Life.node S.l 1).elim S.l _ = _
      rw [h.hub, hfind_one h.hn]
      exact hput_one (x := H) (y := { H with out := H.out.push b }) rfl
    exact .inr (.inl ⟨d, t, e, d2, t2, e2, { H with out := H.out.push b }, h.id, h.gone, hl, h.hn, h.hu, h.he, h.o1, by rw [hd]; exact ho, h.heard, by rw [hd]; show S.told = _; rw [h.told, take_app (by omega)], fun m hm => ⟨(h.net m hm).1, fun e => ⟨((h.net m hm).2 e).1, fun u => ⟨(((h.net m hm).2 e).2 u).1, (((h.net m hm).2 e).2 u).2.1, by rw [hd]; exact (((h.net m hm).2 e).2 u).2.2.app h.o2.tl b⟩⟩⟩⟩)
  · have hl : (S.hpush b).l = [] := by
      show (hfind Life.node S.l 1).elim S.l _ = _
      rw [h.hub]; rfl
    exact .inr (.inr ⟨h.id, hl, h.gone, h.net⟩)
/-- messages are well formed -/
theorem body_ok {E : Life} (h1 : E.inn.Ok) (h2 : 0 ≤ E.epoch ∧ E.epoch < 4294967296) (h3 : -9223372036854775808 ≤ E.node ∧ E.node < 9223372036854775808) {p : Pkt} (hp : 0 ≤ p.seq ∧ p.seq < 4294967296) : (E.body p).Ok :=
  ⟨h1.n0, h1.n1, hp.1, hp.2, h2.1, h2.2, h3.1, (by show E.node ≤ _; omega), by show (-9223372036854775808 : Int) ≤ 2; decide, by show (2 : Int) ≤ 9223372036854775807; decide⟩
theorem hello_ok {E : Life} (h1 : E.inn.Ok) (h2 : 0 ≤ E.epoch ∧ E.epoch < 4294967296) (h3 : -9223372036854775808 ≤ E.node ∧ E.node < 9223372036854775808) : E.hello.Ok :=
  ⟨h1.n0, h1.n1, Int.le_refl 0, (by show (0 : Int) < 4294967296; decide), h2.1, h2.2, h3.1, (by show E.node ≤ _; omega), by show (-9223372036854775808 : Int) ≤ 1; decide, by show (1 : Int) ≤ 9223372036854775807; decide⟩
theorem one_rg {E : Life} (h : E.node = 1) : -9223372036854775808 ≤ E.node ∧ E.node < 9223372036854775808 := by rw [h]; decide
theorem acks_of {m : MsgV} {r : Rcv} {e : Nat} (h : m.ack = r.next) (hr : r.next = Sr.add 0 e) : Acks m e := ⟨e, Nat.le_refl _, h.trans hr⟩
theorem sr00 : (0 : Int) = Sr.add 0 (0 : Nat) := by decide
theorem no_two {m : MsgV} {l : List ByteArray} {t : Nat} (h : m.kind = 1) : Bears m l t := fun k => by rw [h] at k; cases k
theorem PhL.esend (h : PhL e0 S c) (hi : S.E.inn.Ok) (he : 0 ≤ S.E.epoch ∧ S.E.epoch < 4294967296) : PhL e0 S.esend c := by
  have hid := h.id
  have hnew : ∀ m ∈ S.E.sends, ∃ p ∈ S.E.out.news, m = S.E.body p ∧ MidL e0 c m := fun m hm => by
    obtain ⟨p, hp, rfl⟩ := List.mem_map.1 hm
    exact ⟨p, hp, rfl, body_ok hi he (one_rg hid.node) (pkts_ok p hp), hid.node, c, Nat.le_refl _, hid.ep⟩
  rcases h with ⟨t, h⟩ | ⟨d, t, e, d2, t2, e2, H, h⟩ | h
  · obtain ⟨h1, h2, h3⟩ := h.ord.send
    refine .inl ⟨_, ⟨hid.node, hid.up, hid.ep⟩, h.inn, h2, h.gone, h.hub, h.told, fun m hm => ?_⟩
    rcases List.mem_append.1 hm with hm | hm
    · exact ⟨(h.net m hm).1, fun e => ⟨((h.net m hm).2 e).1, ((h.net m hm).2 e).2.1, ((h.net m hm).2 e).2.2.mono h1⟩⟩
    · obtain ⟨p, hp, rfl, hmid⟩ := hnew m hm
      refine ⟨hmid, fun _ => ⟨hid.up, acks_of (r := S.E.inn) rfl (by rw [h.inn]; exact sr00), fun _ => ?_⟩⟩
      rw [h3] at hp
      obtain ⟨j, hj, rfl⟩ := List.mem_map.1 hp
      have := List.mem_range.1 hj
      exact ⟨t + j, by omega, rfl⟩
  · obtain ⟨h1, h2, h3⟩ := h.o1.send
    refine .inr (.inl ⟨d, _, e, d2, t2, e2, H, ⟨hid.node, hid.up, hid.ep⟩, h.gone, h.hub, h.hn, h.hu, h.he, h2, h.o2, h.heard, h.told, fun m hm => ?_⟩)
    rcases List.mem_append.1 hm with hm | hm
    · exact ⟨(h.net m hm).1, fun e => ⟨fun u => ⟨(((h.net m hm).2 e).1 u).1, (((h.net m hm).2 e).1 u).2.mono h1⟩, ((h.net m hm).2 e).2⟩⟩
    · obtain ⟨p, hp, rfl, hmid⟩ := hnew m hm
      refine ⟨hmid, fun _ => ⟨fun _ => ⟨acks_of (r := S.E.inn) rfl h.o2.next, fun _ => ?_⟩, fun u => ?_⟩⟩
      · rw [h3] at hp
        obtain ⟨j, hj, rfl⟩ := List.mem_map.1 hp
        have := List.mem_range.1 hj
        exact ⟨t + j, by omega, rfl⟩
      · exact absurd (show S.E.up = false from u) (by rw [hid.up]; decide)
  · refine .inr (.inr ⟨⟨hid.node, hid.up, hid.ep⟩, h.hub, h.gone, fun m hm => ?_⟩)
    rcases List.mem_append.1 hm with hm | hm
    · exact h.net m hm
    · obtain ⟨p, hp, rfl, hmid⟩ := hnew m hm
      exact hmid
theorem PhL.ebeat (h : PhL e0 S c) (hi : S.E.inn.Ok) (he : 0 ≤ S.E.epoch ∧ S.E.epoch < 4294967296) : PhL e0 S.ebeat c := by
  have hid := h.id
  have hnew : ∀ m ∈ S.E.beat, (m = S.E.hello ∨ ∃ p ∈ S.E.out.again, m = S.E.body p) ∧ MidL e0 c m := fun m hm => by
    rw [Life.beat_eq] at hm
    rcases List.mem_cons.1 hm with rfl | hm
    · exact ⟨.inl rfl, hello_ok hi he (one_rg hid.node), hid.node, c, Nat.le_refl _, hid.ep⟩
    · obtain ⟨p, hp, rfl⟩ := List.mem_map.1 hm
      exact ⟨.inr ⟨p, hp, rfl⟩, body_ok hi he (one_rg hid.node) (pkts_ok p hp), hid.node, c, Nat.le_refl _, hid.ep⟩
  rcases h with ⟨t, h⟩ | ⟨d, t, e, d2, t2, e2, H, h⟩ | h
  · refine .inl ⟨t, hid, h.inn, h.ord, h.gone, h.hub, h.told, fun m hm => ?_⟩
    rcases List.mem_append.1 hm with hm | hm
    · exact h.net m hm
    · obtain ⟨hk, hmid⟩ := hnew m hm
      have hn0 : S.E.inn.next = Sr.add 0 (0 : Nat) := by rw [h.inn]; exact sr00
      rcases hk with rfl | ⟨p, hp, rfl⟩
      · exact ⟨hmid, fun _ => ⟨hid.up, acks_of (r := S.E.inn) rfl hn0, no_two rfl⟩⟩
      · refine ⟨hmid, fun _ => ⟨hid.up, acks_of (r := S.E.inn) rfl hn0, fun _ => ?_⟩⟩
        rw [h.ord.again] at hp
        obtain ⟨j, hj, rfl⟩ := List.mem_map.1 hp
        have := List.mem_range.1 hj
        exact ⟨0 + j, by omega, rfl⟩
  · refine .inr (.inl ⟨d, t, e, d2, t2, e2, H, hid, h.gone, h.hub, h.hn, h.hu, h.he, h.o1, h.o2, h.heard, h.told, fun m hm => ?_⟩)
    rcases List.mem_append.1 hm with hm | hm
    · exact h.net m hm
    · obtain ⟨hk, hmid⟩ := hnew m hm
      refine ⟨hmid, fun _ => ⟨fun _ => ?_, fun u => ?_⟩⟩
      · rcases hk with rfl | ⟨p, hp, rfl⟩
        · exact ⟨acks_of (r := S.E.inn) rfl h.o2.next, no_two rfl⟩
        · refine ⟨acks_of (r := S.E.inn) rfl h.o2.next, fun _ => ?_⟩
          rw [h.o1.again] at hp
          obtain ⟨j, hj, rfl⟩ := List.mem_map.1 hp
          have := List.mem_range.1 hj
          exact ⟨d + j, by omega, rfl⟩
      · rcases hk with rfl | ⟨p, hp, rfl⟩ <;> exact absurd (show S.E.up = false from u) (by rw [hid.up]; decide)
  · refine .inr (.inr ⟨hid, h.hub, h.gone, fun m hm => ?_⟩)
    rcases List.mem_append.1 hm with hm | hm
    · exact h.net m hm
    · exact (hnew m hm).2
theorem PhL.hsend (h : PhL e0 S c) (hc : c ≤ 100000) (hi : ∀ L ∈ S.l, L.inn.Ok ∧ (0 ≤ L.epoch ∧ L.epoch < 4294967296)) : PhL e0 S.hsend c := by
  rcases h with ⟨t, h⟩ | ⟨d, t, e, d2, t2, e2, H, h⟩ | h
  · refine .inl ⟨t, h.id, h.inn, h.ord, h.gone, ?_, h.told, fun m hm => ?_⟩
    · rcases h.hub with hl | ⟨H, hl, h1, h2⟩
      · exact .inl (by show S.l.map _ = _; rw [hl]; rfl)
      · exact .inr ⟨H.sent, by show S.l.map _ = _; rw [hl]; rfl, h1, h2⟩
    · rcases List.mem_append.1 hm with hm | hm
      · exact h.net m hm
      · rcases h.hub with hl | ⟨H, hl, h1, h2⟩
        · rw [hl] at hm; cases hm
        · obtain ⟨L, hL, hx⟩ := List.mem_flatMap.1 hm
          have ho := hi L hL
          rw [hl] at hL
          obtain rfl := List.mem_singleton.1 hL
          obtain ⟨p, hp, rfl⟩ := List.mem_map.1 hx
          obtain ⟨b, hb, hbe⟩ := h2
          exact ⟨⟨body_ok ho.1 ho.2 (one_rg h1) (pkts_ok p hp), h1, b, by omega, hbe⟩, fun e => absurd e (Older.ne ⟨b, hb, hbe⟩ hc)⟩
  · obtain ⟨h1, h2, h3⟩ := h.o2.send
    refine .inr (.inl ⟨d, t, e, d2, _, e2, H.sent, h.id, h.gone, by show S.l.map _ = _; rw [h.hub]; rfl, h.hn, h.hu, h.he, h.o1, h2, h.heard, h.told, fun m hm => ?_⟩)
    rcases List.mem_append.1 hm with hm | hm
    · exact ⟨(h.net m hm).1, fun e => ⟨((h.net m hm).2 e).1, fun u => ⟨(((h.net m hm).2 e).2 u).1, (((h.net m hm).2 e).2 u).2.1, (((h.net m hm).2 e).2 u).2.2.mono h1⟩⟩⟩
    · obtain ⟨L, hL, hx⟩ := List.mem_flatMap.1 hm
      have ho := hi L hL
      rw [h.hub] at hL
      obtain rfl := List.mem_singleton.1 hL
      obtain ⟨p, hp, rfl⟩ := List.mem_map.1 hx
      refine ⟨⟨body_ok ho.1 ho.2 (one_rg h.hn) (pkts_ok p hp), h.hn, c, Nat.le_refl _, h.he⟩, fun _ => ⟨fun u => absurd (show L.up = true from u) (by rw [h.hu]; decide), fun _ => ⟨by show (2 : Int) ≠ 3; decide, acks_of (r := L.inn) rfl h.o1.next, fun _ => ?_⟩⟩⟩
      rw [h3] at hp
      obtain ⟨j, hj, rfl⟩ := List.mem_map.1 hp
      have := List.mem_range.1 hj
      exact ⟨t2 + j, by omega, rfl⟩
  · refine .inr (.inr ⟨h.id, by show S.l.map _ = _; rw [h.hub]; rfl, h.gone, fun m hm => ?_⟩)
    rcases List.mem_append.1 hm with hm | hm
    · exact h.net m hm
    · rw [h.hub] at hm; cases hm
theorem PhL.hbeat (h : PhL e0 S c) (hc : c ≤ 100000) (hi : ∀ L ∈ S.l, L.inn.Ok ∧ (0 ≤ L.epoch ∧ L.epoch < 4294967296)) : PhL e0 S.hbeat c := by
  have hnew : ∀ m ∈ beats S.l, ∃ L ∈ S.l, m = L.hello ∨ ∃ p ∈ L.out.again, m = L.body p := fun m hm => by
    unfold beats at hm
    rcases List.mem_append.1 hm with hm | hm
    · obtain ⟨L, hL, rfl⟩ := List.mem_map.1 hm
      exact ⟨L, hL, .inl rfl⟩
    · obtain ⟨L, hL, hx⟩ := List.mem_flatMap.1 hm
      obtain ⟨p, hp, rfl⟩ := List.mem_map.1 hx
      exact ⟨L, hL, .inr ⟨p, hp, rfl⟩⟩
  rcases h with ⟨t, h⟩ | ⟨d, t, e, d2, t2, e2, H, h⟩ | h
  · refine .inl ⟨t, h.id, h.inn, h.ord, h.gone, h.hub, h.told, fun m hm => ?_⟩
    rcases List.mem_append.1 hm with hm | hm
    · exact h.net m hm
    · obtain ⟨L, hL, hx⟩ := hnew m hm
      have ho := hi L hL
      rcases h.hub with hl | ⟨H, hl, h1, h2⟩
      · rw [hl] at hL; cases hL
      · rw [hl] at hL
        obtain rfl := List.mem_singleton.1 hL
        obtain ⟨b, hb, hbe⟩ := h2
        rcases hx with rfl | ⟨p, hp, rfl⟩
        · exact ⟨⟨hello_ok ho.1 ho.2 (one_rg h1), h1, b, by omega, hbe⟩, fun e => absurd e (Older.ne ⟨b, hb, hbe⟩ hc)⟩
        · exact ⟨⟨body_ok ho.1 ho.2 (one_rg h1) (pkts_ok p hp), h1, b, by omega, hbe⟩, fun e => absurd e (Older.ne ⟨b, hb, hbe⟩ hc)⟩
  · refine .inr (.inl ⟨d, t, e, d2, t2, e2, H, h.id, h.gone, h.hub, h.hn, h.hu, h.he, h.o1, h.o2, h.heard, h.told, fun m hm => ?_⟩)
    rcases List.mem_append.1 hm with hm | hm
    · exact h.net m hm
    · obtain ⟨L, hL, hx⟩ := hnew m hm
      have ho := hi L hL
      rw [h.hub] at hL
      obtain rfl := List.mem_singleton.1 hL
      rcases hx with rfl | ⟨p, hp, rfl⟩
      · exact ⟨⟨hello_ok ho.1 ho.2 (one_rg h.hn), h.hn, c, Nat.le_refl _, h.he⟩, fun _ => ⟨fun u => absurd (show L.up = true from u) (by rw [h.hu]; decide), fun _ => ⟨by show (1 : Int) ≠ 3; decide, acks_of (r := L.inn) rfl h.o1.next, no_two rfl⟩⟩⟩
      · refine ⟨⟨body_ok ho.1 ho.2 (one_rg h.hn) (pkts_ok p hp), h.hn, c, Nat.le_refl _, h.he⟩, fun _ => ⟨fun u => absurd (show L.up = true from u) (by rw [h.hu]; decide), fun _ => ⟨by show (2 : Int) ≠ 3; decide, acks_of (r := L.inn) rfl h.o1.next, fun _ => ?_⟩⟩⟩
        rw [h.o2.again] at hp
        obtain ⟨j, hj, rfl⟩ := List.mem_map.1 hp
        have := List.mem_range.1 hj
        exact ⟨d2 + j, by omega, rfl⟩
  · refine .inr (.inr ⟨h.id, h.hub, h.gone, fun m hm => ?_⟩)
    rcases List.mem_append.1 hm with hm | hm
    · exact h.net m hm
    · obtain ⟨L, hL, hx⟩ := hnew m hm
      rw [h.hub] at hL; cases hL
end
end Go.Proofs.Ytidkapanpieflaa
namespace Go.Proofs.Ytidkapanpieflaa
set_option linter.unusedVariables false
set_option linter.unusedSimpArgs false
def goneB (G : Int → Option Int) (m : MsgV) : Bool := (G 1).any (fun e => !decide (0 < Sr.gap e m.epoch))
/-- what a hub of one node hears -/
theorem hub_cases {l : List Life} {G : Int → Option Int} {m : MsgV} (hn : m.node = 1) (hl : l = [] ∨ ∃ H, l = [H] ∧ H.node = 1) :
    hubHear l G m = (false, [], [], l) ∨ (goneB G m = true ∧ hubHear l G m = (false, [], [m.refuse], l)) ∨
    (goneB G m = false ∧ (l = [] ∨ ∃ H, l = [H] ∧ 0 < Sr.gap H.epoch m.epoch) ∧ hubHear l G m = (true, ((Life.fresh 1 false m.epoch).hear m).1, [], [((Life.fresh 1 false m.epoch).hear m).2])) ∨
    (goneB G m = false ∧ ∃ H, l = [H] ∧ H.epoch = m.epoch ∧ hubHear l G m = (false, (H.hear m).1, [], [(H.hear m).2])) := by
  have hnew : hubNew l m = (true, ((Life.fresh 1 false m.epoch).hear m).1, [], [((Life.fresh 1 false m.epoch).hear m).2]) := by
    unfold hubNew
    rw [hn]
    rcases hl with rfl | ⟨H, rfl, h1⟩
    · rfl
    · rw [hput_one (by rw [h1, Life.hear_node]; rfl)]
  by_cases hd : m.up = false ∨ (m.kind ≠ 1 ∧ m.kind ≠ 2)
  · exact .inl (by unfold hubHear; rw [if_pos hd])
  · by_cases hg : goneB G m = true
    · refine .inr (.inl ⟨hg, ?_⟩)
      unfold hubHear
      rw [if_neg hd, if_pos (by rw [hn]; exact hg)]
    · have hg2 : goneB G m = false := by simpa using hg
      have hh : ∀ r, (match hfind Life.node l m.node with
        | none => hubNew l m
        | some L => if 0 < Sr.gap L.epoch m.epoch then hubNew l m else if L.epoch ≠ m.epoch then (false, [], [], l) else (false, (L.hear m).1, [], hput Life.node l (L.hear m).2)) = r → hubHear l G m = r := fun r hr => by
        unfold hubHear
        rw [if_neg hd, if_neg (by rw [hn]; exact hg)]
        exact hr
      rcases hl with rfl | ⟨H, rfl, h1⟩
      · exact .inr (.inr (.inl ⟨hg2, .inl rfl, hh _ hnew⟩))
      · rw [hn, hfind_one h1] at hh
        by_cases ha : 0 < Sr.gap H.epoch m.epoch
        · exact .inr (.inr (.inl ⟨hg2, .inr ⟨H, rfl, ha⟩, hh _ (by show (if _ then _ else _) = _; rw [if_pos ha, hnew])⟩))
        · by_cases hb : H.epoch = m.epoch
          · refine .inr (.inr (.inr ⟨hg2, H, rfl, hb, hh _ ?_⟩))
            show (if _ then _ else if _ then _ else _) = _
            rw [if_neg ha, if_neg (fun h => h hb), hput_one (by rw [Life.hear_node])]
          · refine .inl (hh _ ?_)
            show (if _ then _ else if _ then _ else _) = _
            rw [if_neg ha, if_pos hb]
theorem refuse_ok {m : MsgV} (hm : m.Ok) : m.refuse.Ok :=
  ⟨Int.le_refl 0, (by show (0 : Int) < 4294967296; decide), Int.le_refl 0, (by show (0 : Int) < 4294967296; decide), hm.e0, hm.e1, hm.n0, hm.n1, by show (-9223372036854775808 : Int) ≤ 3; decide, by show (3 : Int) ≤ 9223372036854775807; decide⟩
theorem hear_epoch (L : Life) (m : MsgV) : (L.hear m).2.epoch = L.epoch := by unfold Life.hear; split <;> rfl
theorem hear_up (L : Life) (m : MsgV) : (L.hear m).2.up = L.up := by unfold Life.hear; split <;> rfl
theorem hear_out (L : Life) (m : MsgV) : (L.hear m).2.out = L.out.ack m.ack := by unfold Life.hear; split <;> rfl
/-- what a life takes of the other side: how much more is told -/
theorem hear_ord {s : Snd} {L : Life} {l : List ByteArray} {d t e : Nat} {m : MsgV} (h : Ord 0 s L.inn l d t e) (hok : L.inn.Ok) (hb : Bears m l t) : ∃ k, (L.hear m).1 = (l.drop e).take k ∧ Ord 0 s (L.hear m).2.inn l d t (e + k) := by
  unfold Life.hear
  by_cases hk : m.kind = 2
  · rw [if_pos hk]
    obtain ⟨j, hj, hp⟩ := hb hk
    obtain ⟨k, h1, h2, _⟩ := h.take hok hj
    exact ⟨k, by rw [hp]; exact h1, by rw [hp]; exact h2⟩
  · rw [if_neg hk]
    exact ⟨0, by simp, h⟩
theorem hear_ack {L : Life} {r : Rcv} {l : List ByteArray} {d t e : Nat} {m : MsgV} (h : Ord 0 L.out r l d t e) (ha : Acks m e) : ∃ d', Ord 0 (L.hear m).2.out r l d' t e := by
  obtain ⟨i, hi, hm⟩ := ha
  obtain ⟨d', h1, _⟩ := h.ack hi
  exact ⟨d', by rw [hear_out, hm]; exact h1⟩
section
variable {e0 : Int} {S : LS} {c : Nat}
theorem gone_old {G : Int → Option Int} {m : MsgV} (hc : c ≤ 100000) (hg : ∀ g, G 1 = some g → Older e0 g c) (h : goneB G m = true) : m.epoch ≠ epc e0 c := by
  intro e
  unfold goneB at h
  rw [e] at h
  cases hG : G 1 with
  | none => rw [hG] at h; cases h
  | some g => rw [hG] at h; have := (hg g hG).gap hc; simp at h; omega
theorem PhL.hub (h : PhL e0 S c) (hc : c ≤ 100000) (hi : ∀ L ∈ S.l, L.inn.Ok) {m : MsgV} (hm : m ∈ S.net) (hu : m.up = true) : PhL e0 (S.hub m) c := by
  rcases h with ⟨t, h⟩ | ⟨d, t, e, d2, t2, e2, H, h⟩ | h
  · obtain ⟨hmid, hcur⟩ := h.net m hm
    have hl : S.l = [] ∨ ∃ H, S.l = [H] ∧ H.node = 1 := h.hub.imp (fun x => x) fun ⟨H, a, b, _⟩ => ⟨H, a, b⟩
    rcases hub_cases (l := S.l) (G := S.G) hmid.node hl with hr | ⟨hg, hr⟩ | ⟨hg, hl2, hr⟩ | ⟨hg, H, hl2, he, hr⟩
    · unfold LS.hub
      rw [hr]
      exact .inl ⟨t, h.id, h.inn, h.ord, h.gone, h.hub, h.told, fun x hx => h.net x (by simpa using hx)⟩
    · unfold LS.hub
      rw [hr]
      refine .inl ⟨t, h.id, h.inn, h.ord, h.gone, h.hub, h.told, fun x hx => ?_⟩
      rcases List.mem_append.1 hx with hx | hx
      · exact h.net x hx
      · obtain rfl := List.mem_singleton.1 hx
        exact ⟨⟨refuse_ok hmid.ok, hmid.node, hmid.ep⟩, fun e => absurd e (gone_old hc h.gone hg)⟩
    · unfold LS.hub
      rw [hr]
      by_cases hec : m.epoch = epc e0 c
      · obtain ⟨_, ha, hb⟩ := hcur hec
        have hFi : (Life.fresh 1 false m.epoch).inn = ⟨0, 8, []⟩ := rfl
        obtain ⟨k, k1, k2⟩ := hear_ord (L := Life.fresh 1 false m.epoch) (s := S.E.out) (by rw [hFi]; exact h.ord) (fresh_ok _ _ _) hb
        obtain ⟨d', k3⟩ := hear_ack (L := Life.fresh 1 false m.epoch) (r := S.E.inn) (l := []) (d := 0) (t := 0) (e := 0) (by rw [h.inn]; exact Ord.start (a := 0) (w := 8) (by decide) (by decide) (by decide) (by decide)) ha
        refine .inr (.inl ⟨0, t, 0 + k, d', 0, 0, _, h.id, h.gone, rfl, by rw [Life.hear_node]; rfl, by rw [hear_up]; rfl, by rw [hear_epoch]; exact hec, k2, k3, ?_, rfl, fun x hx => ?_⟩)
        · show [] ++ _ = _
          rw [k1]; simp
        · have hx2 : x ∈ S.net := by simpa using hx
          refine ⟨(h.net x hx2).1, fun e => ?_⟩
          obtain ⟨a1, a2, a3⟩ := (h.net x hx2).2 e
          exact ⟨fun _ => ⟨a2, a3⟩, fun u => absurd u (by rw [a1]; decide)⟩
      · exact .inl ⟨t, h.id, h.inn, h.ord, h.gone, .inr ⟨_, rfl, by rw [Life.hear_node]; rfl, by rw [hear_epoch]; exact hmid.old hec⟩, rfl, fun x hx => h.net x (by simpa using hx)⟩
    · unfold LS.hub
      rw [hr]
      refine .inl ⟨t, h.id, h.inn, h.ord, h.gone, .inr ⟨_, rfl, ?_⟩, h.told, fun x hx => h.net x (by simpa using hx)⟩
      rcases h.hub with hl3 | ⟨H', hl3, h1, h2⟩
      · rw [hl3] at hl2; cases hl2
      · rw [hl3] at hl2; cases hl2
        exact ⟨by rw [Life.hear_node]; exact h1, by rw [hear_epoch]; exact h2⟩
  · obtain ⟨hmid, hcur⟩ := h.net m hm
    rcases hub_cases (l := S.l) (G := S.G) hmid.node (.inr ⟨H, h.hub, h.hn⟩) with hr | ⟨hg, hr⟩ | ⟨hg, hl2, hr⟩ | ⟨hg, H', hl2, he, hr⟩
    · unfold LS.hub
      rw [hr]
      exact .inr (.inl ⟨d, t, e, d2, t2, e2, H, h.id, h.gone, h.hub, h.hn, h.hu, h.he, h.o1, h.o2, by show S.heard ++ [] = _; rw [List.append_nil]; exact h.heard, h.told, fun x hx => h.net x (by simpa using hx)⟩)
    · unfold LS.hub
      rw [hr]
      refine .inr (.inl ⟨d, t, e, d2, t2, e2, H, h.id, h.gone, h.hub, h.hn, h.hu, h.he, h.o1, h.o2, by show S.heard ++ [] = _; rw [List.append_nil]; exact h.heard, h.told, fun x hx => ?_⟩)
      rcases List.mem_append.1 hx with hx | hx
      · exact h.net x hx
      · obtain rfl := List.mem_singleton.1 hx
        exact ⟨⟨refuse_ok hmid.ok, hmid.node, hmid.ep⟩, fun e => absurd e (gone_old hc h.gone hg)⟩
    · exfalso
      rcases hl2 with hl2 | ⟨H', hl2, hgap⟩
      · rw [h.hub] at hl2; cases hl2
      · rw [h.hub] at hl2; cases hl2
        obtain ⟨b, hb, hbe⟩ := hmid.ep
        rw [h.he, hbe] at hgap
        exact epc_back e0 hb hc hgap
    · rw [h.hub] at hl2
      cases hl2
      unfold LS.hub
      rw [hr]
      have hec : m.epoch = epc e0 c := by rw [← he, h.he]
      obtain ⟨ha, hb⟩ := (hcur hec).1 hu
      obtain ⟨k, k1, k2⟩ := hear_ord h.o1 (hi H (by rw [h.hub]; exact List.mem_cons_self)) hb
      obtain ⟨d', k3⟩ := hear_ack h.o2 ha
      refine .inr (.inl ⟨d, t, e + k, d', t2, e2, _, h.id, h.gone, rfl, by rw [Life.hear_node]; exact h.hn, by rw [hear_up]; exact h.hu, by rw [hear_epoch]; exact h.he, k2, k3, ?_, h.told, fun x hx => ?_⟩)
      · show S.heard ++ _ = _
        rw [k1, h.heard, List.take_add]
      · have hx2 : x ∈ S.net := by simpa using hx
        exact ⟨(h.net x hx2).1, fun e' => ⟨((h.net x hx2).2 e').1, fun u => ⟨(((h.net x hx2).2 e').2 u).1, (((h.net x hx2).2 e').2 u).2.1.mono (by omega), (((h.net x hx2).2 e').2 u).2.2⟩⟩⟩
  · have hmid := h.net m hm
    rcases hub_cases (l := S.l) (G := S.G) hmid.node (.inl h.hub) with hr | ⟨hg, hr⟩ | ⟨hg, hl2, hr⟩ | ⟨hg, H', hl2, he, hr⟩
    · unfold LS.hub
      rw [hr]
      exact .inr (.inr ⟨h.id, h.hub, h.gone, fun x hx => h.net x (by simpa using hx)⟩)
    · unfold LS.hub
      rw [hr]
      refine .inr (.inr ⟨h.id, h.hub, h.gone, fun x hx => ?_⟩)
      rcases List.mem_append.1 hx with hx | hx
      · exact h.net x hx
      · obtain rfl := List.mem_singleton.1 hx
        exact ⟨refuse_ok hmid.ok, hmid.node, hmid.ep⟩
    · exfalso
      obtain ⟨b, hb, hbe⟩ := hmid.ep
      have := epc_back e0 hb hc
      unfold goneB at hg
      rw [h.gone, hbe] at hg
      simp at hg
      omega
    · exfalso
      rw [h.hub] at hl2
      cases hl2
/-- a life ends: the next one begins -/
theorem PhL.next (h : PhL e0 S c) (hc : c + 1 ≤ 100000) : PA e0 { S with E := S.E.next, up := [], told := [] } (c + 1) 0 := by
  have hid := h.id
  have hmid := h.mid
  have hg : (∀ g, S.G 1 = some g → Older e0 g (c + 1)) ∧ (S.l = [] ∨ ∃ H, S.l = [H] ∧ H.node = 1 ∧ Older e0 H.epoch (c + 1)) := by
    rcases h with ⟨t, h⟩ | ⟨d, t, e, d2, t2, e2, H, h⟩ | h
    · exact ⟨fun g hg => (h.gone g hg).next, h.hub.imp (fun x => x) fun ⟨H, a, b, o⟩ => ⟨H, a, b, o.next⟩⟩
    · exact ⟨fun g hg => (h.gone g hg).next, .inr ⟨H, h.hub, h.hn, c, by omega, h.he⟩⟩
    · exact ⟨fun g hg => ⟨c, by omega, by rw [h.gone] at hg; cases hg; rfl⟩, .inl h.hub⟩
  refine ⟨⟨hid.node, rfl, by show Sr.add S.E.epoch 1 = _; rw [hid.ep, epc_succ]⟩, rfl, Ord.start (a := 0) (w := 8) (by decide) (by decide) (by decide) (by decide), hg.1, hg.2, rfl, fun m hm => ⟨(hmid m hm).next, fun e => ?_⟩⟩
  obtain ⟨b, hb, hbe⟩ := (hmid m hm).ep
  exact absurd e (Older.ne ⟨b, by omega, hbe⟩ hc)
theorem epc_ne (e0 : Int) {c : Nat} (hc : c + 1 ≤ 100000) : epc e0 (c + 1) ≠ epc e0 c := fun e => by have := epc_inj e0 hc (by omega) e; omega
theorem PhL.crash (h : PhL e0 S c) (hc : c + 1 ≤ 100000) : PhL e0 (S.crash.settle S.E.epoch) (c + 1) := by
  have hn := h.next hc
  have hne : ¬ S.crash.E.epoch = S.E.epoch := by
    have h1 : S.crash.E.epoch = epc e0 (c + 1) := hn.id.ep
    rw [h1, h.id.ep]
    exact epc_ne e0 hc
  unfold LS.settle
  rw [if_neg hne]
  exact .inl ⟨0, hn⟩
theorem PhL.drop (h : PhL e0 S c) : PhL e0 S.drop c := by
  rcases h with ⟨t, h⟩ | ⟨d, t, e, d2, t2, e2, H, h⟩ | h
  · refine .inl ⟨t, h.id, h.inn, h.ord, fun g hg => ?_, .inl ?_, rfl, h.net⟩
    · rcases h.hub with hl | ⟨H, hl, h1, h2⟩
      · unfold LS.drop at hg; rw [hl] at hg; exact h.gone g hg
      · unfold LS.drop at hg
        rw [hl] at hg
        simp only [hfind_one h1, Option.elim_some] at hg
        cases hg
        exact h2
    · show hdel Life.node S.l 1 = []
      rcases h.hub with hl | ⟨H, hl, h1, h2⟩
      · rw [hl]; rfl
      · rw [hl]; exact hdel_one h1
  · refine .inr (.inr ⟨h.id, ?_, ?_, fun m hm => (h.net m hm).1⟩)
    · show hdel Life.node S.l 1 = []
      rw [h.hub]; exact hdel_one h.hn
    · unfold LS.drop
      rw [h.hub]
      simp only [hfind_one h.hn, Option.elim_some, if_pos]
      rw [h.he]
  · refine .inr (.inr ⟨h.id, ?_, ?_, h.net⟩)
    · show hdel Life.node S.l 1 = []
      rw [h.hub]; rfl
    · unfold LS.drop
      rw [h.hub]
      exact h.gone
/-- the end hears a message -/
theorem PhL.ear (h : PhL e0 S c) (hc : c + 1 ≤ 100000) (hi : S.E.inn.Ok) {m : MsgV} (hm : m ∈ S.net) (hu : m.up = false) : ∃ c', c ≤ c' ∧ c' ≤ c + 1 ∧ PhL e0 ((S.ear m).settle S.E.epoch) c' := by
  have hid := h.id
  have same : ∀ S' : LS, S' = S.ear m → S'.E.epoch = S.E.epoch → PhL e0 S' c → ∃ c', c ≤ c' ∧ c' ≤ c + 1 ∧ PhL e0 ((S.ear m).settle S.E.epoch) c' := fun S' e1 e2 h' => by
    subst e1
    exact ⟨c, Nat.le_refl _, by omega, by rw [LS.settle_same e2]; exact h'⟩
  by_cases hd : S.E.deaf m
  · have he : S.E.ehear m = ([], false, S.E) := by unfold Life.ehear; rw [if_pos hd]
    have hS : S = S.ear m := by unfold LS.ear; rw [he, List.append_nil]
    exact same S hS rfl h
  · have hep : m.epoch = epc e0 c := by
      rw [← hid.ep]
      exact Decidable.byContradiction fun e => hd (.inr (.inr (.inl e)))
    by_cases hk : m.kind = 3
    · have he : S.E.ehear m = ([], true, S.E.next) := by unfold Life.ehear; rw [if_neg hd, if_pos hk]
      have hS : S.crash = S.ear m := by unfold LS.ear LS.crash; rw [he, List.append_nil]
      rw [← hS]
      exact ⟨c + 1, by omega, Nat.le_refl _, h.crash hc⟩
    · have he : S.E.ehear m = ((S.E.hear m).1, false, (S.E.hear m).2) := by unfold Life.ehear; rw [if_neg hd, if_neg hk]
      have hS : (⟨(S.E.hear m).2, S.l, S.G, S.net, S.up, S.heard, S.down, S.told ++ (S.E.hear m).1⟩ : LS) = S.ear m := by unfold LS.ear; rw [he]
      have hid2 : EidL e0 (S.E.hear m).2 c := ⟨by rw [Life.hear_node]; exact hid.node, by rw [hear_up]; exact hid.up, by rw [hear_epoch]; exact hid.ep⟩
      refine same _ hS (by show (S.E.hear m).2.epoch = _; rw [hear_epoch]) ?_
      rcases h with ⟨t, h⟩ | ⟨d, t, e, d2, t2, e2, H, h⟩ | h
      · exact absurd hu (by rw [((h.net m hm).2 hep).1]; decide)
      · obtain ⟨_, ha, hb⟩ := ((h.net m hm).2 hep).2 hu
        obtain ⟨k, k1, k2⟩ := hear_ord h.o2 hi hb
        obtain ⟨d', k3⟩ := hear_ack h.o1 ha
        refine .inr (.inl ⟨d', t, e, d2, t2, e2 + k, H, hid2, h.gone, h.hub, h.hn, h.hu, h.he, k3, k2, h.heard, ?_, fun x hx => ⟨(h.net x hx).1, fun e' => ⟨fun u => ⟨(((h.net x hx).2 e').1 u).1.mono (by omega), (((h.net x hx).2 e').1 u).2⟩, ((h.net x hx).2 e').2⟩⟩⟩)
        show S.told ++ _ = _
        rw [h.told, k1, List.take_add]
      · exact .inr (.inr ⟨hid2, h.hub, h.gone, h.net⟩)
/-- what is asked at a round's end -/
theorem PhL.check (h : PhL e0 S c) (hc : c ≤ 100000) : (hfind Life.node S.l 1 = none) ∨ (∃ H, hfind Life.node S.l 1 = some H ∧ H.epoch ≠ S.E.epoch) ∨
    (∃ H, hfind Life.node S.l 1 = some H ∧ H.epoch = S.E.epoch ∧ (S.heard.length ≤ S.up.length ∧ S.up.take S.heard.length = S.heard) ∧ (S.told.length ≤ S.down.length ∧ S.down.take S.told.length = S.told)) := by
  rcases h with ⟨t, h⟩ | ⟨d, t, e, d2, t2, e2, H, h⟩ | h
  · rcases h.hub with hl | ⟨H, hl, h1, h2⟩
    · exact .inl (by rw [hl]; rfl)
    · exact .inr (.inl ⟨H, by rw [hl]; exact hfind_one h1, by rw [h.id.ep]; exact h2.ne hc⟩)
  · refine .inr (.inr ⟨H, by rw [h.hub]; exact hfind_one h.hn, by rw [h.he, h.id.ep], ?_, ?_⟩)
    · have h1 := h.o1.et
      have h2 := h.o1.tl
      rw [h.heard]
      refine ⟨by simp; omega, ?_⟩
      rw [List.length_take, Nat.min_eq_left (by omega)]
    · have h1 := h.o2.et
      have h2 := h.o2.tl
      rw [h.told]
      refine ⟨by simp; omega, ?_⟩
      rw [List.length_take, Nat.min_eq_left (by omega)]
  · exact .inl (by rw [h.hub]; rfl)
theorem PhL.start (e0 : Int) (h0 : 0 ≤ e0) (h1 : e0 < 4294967296) : PhL e0 ⟨Life.fresh 1 true e0, [], fun _ => none, [], [], [], [], []⟩ 0 := by
  refine .inl ⟨0, ⟨rfl, rfl, ?_⟩, rfl, Ord.start (a := 0) (w := 8) (by decide) (by decide) (by decide) (by decide), fun g hg => (by cases hg), .inl rfl, rfl, fun m hm => (by cases hm)⟩
  show e0 = Sr.add e0 (0 : Nat)
  unfold Sr.add
  omega
end
end Go.Proofs.Ytidkapanpieflaa
namespace Go.Proofs.Ytidkapanpieflaa
open Go.RowKit
set_option linter.unusedVariables false
set_option linter.unusedSimpArgs false
structure LivM (w wr : World) (p q : Nat) (vn vu vh vd vt : Value) (c : Nat → Nat) (S : LS) : Prop where
  col : Col w wr c
  e : EndAt wr p (fun k => c k = 1) S.E
  h : HubAt wr (fun k => c k = 2) q S.l S.G
  n : Row wr (fun k => c k = 3) 65 7 vn S.net.length (MsgV.vals S.net)
  u : Row wr (fun k => c k = 4) 9 1 vu S.up.length (S.up.map .string)
  r : Row wr (fun k => c k = 5) 9 1 vh S.heard.length (S.heard.map .string)
  d : Row wr (fun k => c k = 6) 9 1 vd S.down.length (S.down.map .string)
  t : Row wr (fun k => c k = 7) 9 1 vt S.told.length (S.told.map .string)
section
variable {w wr w' : World} {p q : Nat} {vn vu vh vd vt v : Value} {c : Nat → Nat} {S S' : LS}
theorem LivM.to (h : LivM w wr p q vn vu vh vd vt c S) (e : S = S') : LivM w wr p q vn vu vh vd vt c S' := e ▸ h
theorem LivM.drew (h : LivM w wr p q vn vu vh vd vt c S) : LivM w wr.drew p q vn vu vh vd vt c S := ⟨h.col.drew, h.e.drew, h.h.keep (Mod.refl (fun _ => False) _).drew fun _ _ f => f, h.n.drew, h.u.drew, h.r.drew, h.d.drew, h.t.drew⟩
theorem LivM.still (h : LivM w wr p q vn vu vh vd vt c S) (hm : Mod (fun _ => False) wr w') (i : Nat) : LivM w w' p q vn vu vh vd vt (paint c wr w' i) S :=
  ⟨h.col.still hm i, (h.e.keep hm fun _ _ f => f).mono (paint_away h.col (by decide) i), (h.h.keep hm fun _ _ f => f).mono (paint_away h.col (by decide) i), h.n.stillC h.col hm (by decide) i, h.u.stillC h.col hm (by decide) i, h.r.stillC h.col hm (by decide) i, h.d.stillC h.col hm (by decide) i, h.t.stillC h.col hm (by decide) i⟩
theorem LivM.eM (h : LivM w wr p q vn vu vh vd vt c S) {E' : Life} (he : EndAt w' p (fun k => c k = 1 ∨ wr.heap.size ≤ k) E') (hm : Mod (fun k => c k = 1) wr w') : LivM w w' p q vn vu vh vd vt (paint c wr w' 1) { S with E := E' } :=
  ⟨h.col.step hm (by decide) 1, he.mono (paint_mine h.col (by decide)), (h.h.keep hm (mod_away (by decide))).mono (paint_away h.col (by decide) 1), h.n.away h.col hm (by decide) (by decide) 1, h.u.away h.col hm (by decide) (by decide) 1, h.r.away h.col hm (by decide) (by decide) 1, h.d.away h.col hm (by decide) (by decide) 1, h.t.away h.col hm (by decide) (by decide) 1⟩
theorem LivM.eS (h : LivM w wr p q vn vu vh vd vt c S) {E' : Life} (he : EndAt w' p (fun k => c k = 1) E') (hm : Mod (fun k => c k = 1) wr w') (i : Nat) : LivM w w' p q vn vu vh vd vt (paint c wr w' i) { S with E := E' } :=
  ⟨h.col.step hm (by decide) i, he.mono (paint_away h.col (by decide) i), (h.h.keep hm (mod_away (by decide))).mono (paint_away h.col (by decide) i), h.n.away h.col hm (by decide) (by decide) i, h.u.away h.col hm (by decide) (by decide) i, h.r.away h.col hm (by decide) (by decide) i, h.d.away h.col hm (by decide) (by decide) i, h.t.away h.col hm (by decide) (by decide) i⟩
theorem LivM.hM (h : LivM w wr p q vn vu vh vd vt c S) {l' : List Life} {G' : Int → Option Int} (hx : HubAt w' (fun k => c k = 2 ∨ wr.heap.size ≤ k) q l' G') (hm : Mod (fun k => c k = 2) wr w') : LivM w w' p q vn vu vh vd vt (paint c wr w' 2) { S with l := l', G := G' } :=
  ⟨h.col.step hm (by decide) 2, (h.e.keep hm (mod_away (by decide))).mono (paint_away h.col (by decide) 2), hx.mono (paint_mine h.col (by decide)), h.n.away h.col hm (by decide) (by decide) 2, h.u.away h.col hm (by decide) (by decide) 2, h.r.away h.col hm (by decide) (by decide) 2, h.d.away h.col hm (by decide) (by decide) 2, h.t.away h.col hm (by decide) (by decide) 2⟩
theorem LivM.box (h : LivM w wr p q vn vu vh vd vt c S) {j : Nat} (hj : j = 9) (hm : Mod (fun k => c k = j) wr w') (i : Nat) : LivM w w' p q vn vu vh vd vt (paint c wr w' i) S := by
  subst hj
  exact ⟨h.col.step hm (by decide) i, (h.e.keep hm (mod_away (by decide))).mono (paint_away h.col (by decide) i), (h.h.keep hm (mod_away (by decide))).mono (paint_away h.col (by decide) i), h.n.away h.col hm (by decide) (by decide) i, h.u.away h.col hm (by decide) (by decide) i, h.r.away h.col hm (by decide) (by decide) i, h.d.away h.col hm (by decide) (by decide) i, h.t.away h.col hm (by decide) (by decide) i⟩
theorem LivM.nM (h : LivM w wr p q vn vu vh vd vt c S) {l' : List MsgV} {n : Nat} {xs : List Value} (hr : Row w' (fun k => c k = 3 ∨ wr.heap.size ≤ k) 65 7 v n xs) (hm : Mod (fun k => c k = 3) wr w') (hn : n = l'.length) (hx : xs = MsgV.vals l') : LivM w w' p q v vu vh vd vt (paint c wr w' 3) { S with net := l' } := by
  subst hn hx
  exact ⟨h.col.step hm (by decide) 3, (h.e.keep hm (mod_away (by decide))).mono (paint_away h.col (by decide) 3), (h.h.keep hm (mod_away (by decide))).mono (paint_away h.col (by decide) 3), hr.mine h.col (by decide), h.u.away h.col hm (by decide) (by decide) 3, h.r.away h.col hm (by decide) (by decide) 3, h.d.away h.col hm (by decide) (by decide) 3, h.t.away h.col hm (by decide) (by decide) 3⟩
theorem LivM.uM (h : LivM w wr p q vn vu vh vd vt c S) {l' : List ByteArray} {n : Nat} {xs : List Value} (hr : Row w' (fun k => c k = 4 ∨ wr.heap.size ≤ k) 9 1 v n xs) (hm : Mod (fun k => c k = 4) wr w') (hn : n = l'.length) (hx : xs = l'.map .string) : LivM w w' p q vn v vh vd vt (paint c wr w' 4) { S with up := l' } := by
  subst hn hx
  exact ⟨h.col.step hm (by decide) 4, (h.e.keep hm (mod_away (by decide))).mono (paint_away h.col (by decide) 4), (h.h.keep hm (mod_away (by decide))).mono (paint_away h.col (by decide) 4), h.n.away h.col hm (by decide) (by decide) 4, hr.mine h.col (by decide), h.r.away h.col hm (by decide) (by decide) 4, h.d.away h.col hm (by decide) (by decide) 4, h.t.away h.col hm (by decide) (by decide) 4⟩
theorem LivM.rM (h : LivM w wr p q vn vu vh vd vt c S) {l' : List ByteArray} {n : Nat} {xs : List Value} (hr : Row w' (fun k => c k = 5 ∨ wr.heap.size ≤ k) 9 1 v n xs) (hm : Mod (fun k => c k = 5) wr w') (hn : n = l'.length) (hx : xs = l'.map .string) : LivM w w' p q vn vu v vd vt (paint c wr w' 5) { S with heard := l' } := by
  subst hn hx
  exact ⟨h.col.step hm (by decide) 5, (h.e.keep hm (mod_away (by decide))).mono (paint_away h.col (by decide) 5), (h.h.keep hm (mod_away (by decide))).mono (paint_away h.col (by decide) 5), h.n.away h.col hm (by decide) (by decide) 5, h.u.away h.col hm (by decide) (by decide) 5, hr.mine h.col (by decide), h.d.away h.col hm (by decide) (by decide) 5, h.t.away h.col hm (by decide) (by decide) 5⟩
theorem LivM.dM (h : LivM w wr p q vn vu vh vd vt c S) {l' : List ByteArray} {n : Nat} {xs : List Value} (hr : Row w' (fun k => c k = 6 ∨ wr.heap.size ≤ k) 9 1 v n xs) (hm : Mod (fun k => c k = 6) wr w') (hn : n = l'.length) (hx : xs = l'.map .string) : LivM w w' p q vn vu vh v vt (paint c wr w' 6) { S with down := l' } := by
  subst hn hx
  exact ⟨h.col.step hm (by decide) 6, (h.e.keep hm (mod_away (by decide))).mono (paint_away h.col (by decide) 6), (h.h.keep hm (mod_away (by decide))).mono (paint_away h.col (by decide) 6), h.n.away h.col hm (by decide) (by decide) 6, h.u.away h.col hm (by decide) (by decide) 6, h.r.away h.col hm (by decide) (by decide) 6, hr.mine h.col (by decide), h.t.away h.col hm (by decide) (by decide) 6⟩
theorem LivM.tM (h : LivM w wr p q vn vu vh vd vt c S) {l' : List ByteArray} {n : Nat} {xs : List Value} (hr : Row w' (fun k => c k = 7 ∨ wr.heap.size ≤ k) 9 1 v n xs) (hm : Mod (fun k => c k = 7) wr w') (hn : n = l'.length) (hx : xs = l'.map .string) : LivM w w' p q vn vu vh vd v (paint c wr w' 7) { S with told := l' } := by
  subst hn hx
  exact ⟨h.col.step hm (by decide) 7, (h.e.keep hm (mod_away (by decide))).mono (paint_away h.col (by decide) 7), (h.h.keep hm (mod_away (by decide))).mono (paint_away h.col (by decide) 7), h.n.away h.col hm (by decide) (by decide) 7, h.u.away h.col hm (by decide) (by decide) 7, h.r.away h.col hm (by decide) (by decide) 7, h.d.away h.col hm (by decide) (by decide) 7, hr.mine h.col (by decide)⟩
/-- the hub has changed, and has handed out a row of its own making -/
theorem LivM.hV (h : LivM w wr p q vn vu vh vd vt c S) {e : TypeId} {sz n : Nat} {xs : List Value} {l' : List Life} {G' : Int → Option Int} (hx : HubAt w' (fun k => (c k = 2 ∨ wr.heap.size ≤ k) ∧ ¬ v.ownBlock = some k) q l' G') (hv : Row w' (fun k => wr.heap.size ≤ k) e sz v n xs) (hm : Mod (fun k => c k = 2) wr w') :
    ∃ c', LivM w w' p q vn vu vh vd vt c' { S with l := l', G := G' } ∧ Row w' (fun k => c' k = 8) e sz v n xs ∧ (∀ k, k < wr.heap.size → c' k = c k) := by
  have hs := h.col.mod.size
  have hC := h.col.step hm (by decide) 2
  have hno : ∀ k, k < wr.heap.size → ¬ v.ownBlock = some k := fun k hk e => by have := hv.2 k e; omega
  have hpo : ∀ k, k < wr.heap.size → paint c wr w' 2 k = c k := fun k hk => by unfold paint; rw [if_neg (by omega)]
  have key : ∀ i, i ≠ 0 → ∀ k, c k = i → k < w'.heap.size → (if v.ownBlock = some k then 8 else paint c wr w' 2 k) = i := fun i hi k hk _ => by
    have hl := h.col.lt hi k hk
    rw [if_neg (hno k hl), hpo k hl]; exact hk
  refine ⟨fun k => if v.ownBlock = some k then 8 else paint c wr w' 2 k, ⟨⟨fun k hk => ?_, fun k hk => ?_, hC.mod⟩, (h.e.keep hm (mod_away (by decide))).mono (key 1 (by decide)), hx.mono fun k hk hl => ?_, (h.n.keep hm (mod_away (by decide))).monoLt (key 3 (by decide)), (h.u.keep hm (mod_away (by decide))).monoLt (key 4 (by decide)), (h.r.keep hm (mod_away (by decide))).monoLt (key 5 (by decide)), (h.d.keep hm (mod_away (by decide))).monoLt (key 6 (by decide)), (h.t.keep hm (mod_away (by decide))).monoLt (key 7 (by decide))⟩, ⟨hv.1, fun g hg => if_pos hg⟩, fun k hk => ?_⟩
  · rw [if_neg (hno k (by omega))]; exact hC.old k hk
  · rw [if_neg (fun e => by have := hv.lt k e; omega)]; exact hC.new k hk
  · show (if v.ownBlock = some k then 8 else paint c wr w' 2 k) = 2
    rw [if_neg hk.2]; exact paint_mine h.col (by decide) k hk.1 hl
  · show (if v.ownBlock = some k then 8 else paint c wr w' 2 k) = c k
    rw [if_neg (hno k hk), hpo k hk]
end
/- plain: whole rounds -/
def ndel (l : List MsgV) (i : Nat) : List MsgV := l.take i ++ l.drop (i + 1)
theorem ndel_mem {l : List MsgV} {i : Nat} : ∀ m ∈ ndel l i, m ∈ l := fun m hm => by
  rcases List.mem_append.1 hm with h | h
  · exact List.mem_of_mem_take h
  · exact List.mem_of_mem_drop h
/-- at a round's head -/
structure InvL (e0 : Int) (S : LS) (c i : Nat) : Prop where
  ph : PhL e0 S c
  ci : c ≤ i
  nn : S.net.length ≤ 40
  nu : S.up.length ≤ i
  nd : S.down.length ≤ i
  nr : S.heard.length ≤ 65 * i
  nt : S.told.length ≤ 65 * i
/-- behind a round's switch: what was the epoch; the state -/
structure MidR (e0 : Int) (was : Int) (S : LS) (i : Nat) : Prop where
  ph : ∃ c, c ≤ i + 1 ∧ PhL e0 (S.settle was) c
  nu : S.up.length ≤ i + 1
  nd : S.down.length ≤ i + 1
  nr : S.heard.length ≤ 65 * (i + 1)
  nt : S.told.length ≤ 65 * (i + 1)
section
variable {e0 : Int} {S : LS} {c i : Nat}
theorem settle_net (was : Int) (S : LS) (ms : List MsgV) : ({ S with net := ms } : LS).settle was = { S.settle was with net := ms } := by
  by_cases h : S.E.epoch = was
  · rw [LS.settle_same h, LS.settle_same (S := { S with net := ms }) h]
  · unfold LS.settle; rw [if_neg h, if_neg h]
theorem settle_same3 (was : Int) (S : LS) : S.net = (S.settle was).net ∧ S.heard = (S.settle was).heard ∧ S.down = (S.settle was).down := by unfold LS.settle; split <;> exact ⟨rfl, rfl, rfl⟩
theorem InvL.mid (h : InvL e0 S c i) {S' : LS} (hE : S'.E.epoch = S.E.epoch) (hp : PhL e0 S' c) (h1 : S'.up.length ≤ S.up.length + 1) (h2 : S'.down.length ≤ S.down.length + 1) (h3 : S'.heard.length ≤ S.heard.length + 65) (h4 : S'.told.length ≤ S.told.length + 65) : MidR e0 S.E.epoch S' i :=
  ⟨⟨c, by have := h.ci; omega, by rw [LS.settle_same hE]; exact hp⟩, by have := h.nu; omega, by have := h.nd; omega, by have := h.nr; omega, by have := h.nt; omega⟩
theorem InvL.skip (h : InvL e0 S c i) : MidR e0 S.E.epoch S i := h.mid rfl h.ph (by omega) (by omega) (by omega) (by omega)
theorem InvL.push (h : InvL e0 S c i) (hi : i < 900) (b : ByteArray) : MidR e0 S.E.epoch (S.push b) i :=
  h.mid rfl (h.ph.push b (by have := h.nu; omega)) (by unfold LS.push; dsimp only; split <;> simp) (Nat.le_succ _) (by show S.heard.length ≤ _; omega) (by show S.told.length ≤ _; omega)
theorem InvL.hpush (h : InvL e0 S c i) (hi : i < 900) (b : ByteArray) : MidR e0 S.E.epoch (S.hpush b) i :=
  h.mid rfl (h.ph.hpush b (by have := h.nd; omega)) (Nat.le_succ _) (by unfold LS.hpush; dsimp only; split <;> simp) (by show S.heard.length ≤ _; omega) (by show S.told.length ≤ _; omega)
theorem InvL.crash (h : InvL e0 S c i) (hi : i < 900) : MidR e0 S.E.epoch S.crash i :=
  ⟨⟨c + 1, by have := h.ci; omega, h.ph.crash (by have := h.ci; omega)⟩, by have := h.nu; show S.up.length ≤ _; omega, by have := h.nd; show S.down.length ≤ _; omega, by have := h.nr; show S.heard.length ≤ _; omega, by have := h.nt; show S.told.length ≤ _; omega⟩
theorem InvL.drop (h : InvL e0 S c i) : MidR e0 S.E.epoch S.drop i :=
  h.mid rfl h.ph.drop (Nat.le_succ _) (Nat.zero_le _) (Nat.zero_le _) (Nat.zero_le _)
theorem InvL.sub (h : InvL e0 S c i) {ms : List MsgV} (hs : ∀ m ∈ ms, m ∈ S.net) : MidR e0 S.E.epoch { S with net := ms } i :=
  h.mid rfl (h.ph.sub hs) (Nat.le_succ _) (Nat.le_succ _) (by show S.heard.length ≤ _; omega) (by show S.told.length ≤ _; omega)
theorem InvL.twice (h : InvL e0 S c i) {m : MsgV} (hm : m ∈ S.net) : MidR e0 S.E.epoch { S with net := S.net ++ [m] } i :=
  h.sub fun x hx => by
    rcases List.mem_append.1 hx with hx | hx
    · exact hx
    · rw [List.mem_singleton.1 hx]; exact hm
theorem InvL.send2 (h : InvL e0 S c i) (hi : i < 900) (h1 : S.E.inn.Ok) (h2 : 0 ≤ S.E.epoch ∧ S.E.epoch < 4294967296) (h3 : ∀ L ∈ S.l, L.inn.Ok ∧ (0 ≤ L.epoch ∧ L.epoch < 4294967296)) : MidR e0 S.E.epoch S.esend.hsend i :=
  h.mid rfl ((h.ph.esend h1 h2).hsend (by have := h.ci; omega) h3) (Nat.le_succ _) (Nat.le_succ _) (by show S.heard.length ≤ _; omega) (by show S.told.length ≤ _; omega)
theorem InvL.send3 (h : InvL e0 S c i) (hi : i < 900) (h1 : S.E.inn.Ok) (h2 : 0 ≤ S.E.epoch ∧ S.E.epoch < 4294967296) (h3 : ∀ L ∈ S.l, L.inn.Ok ∧ (0 ≤ L.epoch ∧ L.epoch < 4294967296)) : MidR e0 S.E.epoch S.esend.hsend.ebeat.hbeat i := by
  have ha : PhL e0 S.esend.hsend c := (h.ph.esend h1 h2).hsend (by have := h.ci; omega) h3
  have hb : PhL e0 S.esend.hsend.ebeat c := ha.ebeat h1 h2
  have hc : PhL e0 S.esend.hsend.ebeat.hbeat c := hb.hbeat (by have := h.ci; omega) fun L hL => by
    obtain ⟨L', hL', rfl⟩ := List.mem_map.1 (show L ∈ S.l.map Life.sent from hL)
    exact h3 L' hL'
  exact h.mid rfl hc (Nat.le_succ _) (Nat.le_succ _) (by show S.heard.length ≤ _; omega) (by show S.told.length ≤ _; omega)
theorem InvL.hub (h : InvL e0 S c i) (hi : i < 900) (h3 : ∀ L ∈ S.l, L.inn.Ok) {m : MsgV} (hm : m ∈ S.net) (hu : m.up = true) {ms : List MsgV} (hs : ∀ x ∈ ms, x ∈ S.net) : MidR e0 S.E.epoch { S.hub m with net := ms ++ (hubHear S.l S.G m).2.2.1 } i := by
  have hp := (h.ph.hub (by have := h.ci; omega) h3 hm hu).sub (ms := ms ++ (hubHear S.l S.G m).2.2.1) fun x hx => by
    rcases List.mem_append.1 hx with hx | hx
    · exact List.mem_append.2 (.inl (hs x hx))
    · exact List.mem_append.2 (.inr hx)
  have hl := (hubHear_len (l := S.l) (G := S.G) (m := m) h3).1
  refine h.mid rfl hp (Nat.le_succ _) ?_ ?_ ?_
  · show (if _ then [] else S.down).length ≤ _
    split <;> simp
  · show ((if _ then [] else S.heard) ++ _).length ≤ _
    split <;> simp <;> omega
  · show (if _ then [] else S.told).length ≤ _
    split <;> simp
theorem InvL.ear (h : InvL e0 S c i) (hi : i < 900) (h3 : S.E.inn.Ok) {m : MsgV} (hm : m ∈ S.net) (hu : m.up = false) {ms : List MsgV} (hs : ∀ x ∈ ms, x ∈ S.net) : MidR e0 S.E.epoch { S.ear m with net := ms } i := by
  obtain ⟨c', h1, h2, hp⟩ := h.ph.ear (by have := h.ci; omega) h3 hm hu
  have hnet : ((S.ear m).settle S.E.epoch).net = S.net := by unfold LS.settle; split <;> rfl
  have hl : (S.E.ehear m).1.length ≤ 65 := by
    unfold Life.ehear
    split
    · exact Nat.zero_le _
    · split
      · exact Nat.zero_le _
      · exact hear_len h3 m
  refine ⟨⟨c', by have := h.ci; omega, by rw [settle_net]; exact hp.sub (by rw [hnet]; exact hs)⟩, by have := h.nu; show S.up.length ≤ _; omega, by have := h.nd; show S.down.length ≤ _; omega, by have := h.nr; show S.heard.length ≤ _; omega, ?_⟩
  show (S.told ++ _).length ≤ _
  have := h.nt
  simp
  omega
/-- what is asked; the net is cut -/
theorem MidR.next {was : Int} (h : MidR e0 was S i) : ∃ c, c ≤ i + 1 ∧ PhL e0 (S.settle was) c ∧ InvL e0 { S.settle was with net := (S.settle was).net.take 40 } c (i + 1) := by
  obtain ⟨c, hc, hp⟩ := h.ph
  have hx : (S.settle was).up.length ≤ S.up.length ∧ (S.settle was).down.length ≤ S.down.length ∧ (S.settle was).heard.length ≤ S.heard.length ∧ (S.settle was).told.length ≤ S.told.length := by
    unfold LS.settle
    split
    · exact ⟨Nat.le_refl _, Nat.le_refl _, Nat.le_refl _, Nat.le_refl _⟩
    · exact ⟨Nat.zero_le _, Nat.le_refl _, Nat.le_refl _, Nat.zero_le _⟩
  obtain ⟨x1, x2, x3, x4⟩ := hx
  have y1 := h.nu
  have y2 := h.nd
  have y3 := h.nr
  have y4 := h.nt
  exact ⟨c, hc, hp, ⟨hp.sub fun m hm => List.mem_of_mem_take hm, hc, List.length_take_le _ _, by show (S.settle was).up.length ≤ _; omega, by show (S.settle was).down.length ≤ _; omega, by show (S.settle was).heard.length ≤ _; omega, by show (S.settle was).told.length ≤ _; omega⟩⟩
theorem InvL.l1 (h : InvL e0 S c i) : S.l.length ≤ 1 := by
  rcases h.ph with ⟨t, h⟩ | ⟨d, t, e, d2, t2, e2, H, h⟩ | h
  · rcases h.hub with h | ⟨H, h, _⟩ <;> rw [h] <;> simp
  · rw [h.hub]; simp
  · rw [h.hub]; simp
end
end Go.Proofs.Ytidkapanpieflaa
namespace Go.Proofs.Ytidkapanpieflaa
open Go.RowKit
set_option linter.unusedVariables false
set_option linter.unusedSimpArgs false
/-- a piece of a function's code -/
def pickC (l : List Nat) (c : Code) : Code := l.foldl (fun c x => match x, c with
  | 0, .seq a _ => a
  | _, .seq _ b => b
  | 0, .cond _ a _ => a
  | _, .cond _ _ b => b
  | _, .block _ c => c
  | _, .loop c => c
  | _, .scope c => c
  | _, c => c) c
theorem Row.zero (w : World) (e : TypeId) (sz : Nat) : Row (w.alloc (.cells #[] e)) (fun k => w.heap.size ≤ k) e sz (.slice (some ⟨w.heap.size, 0, none⟩) 0 0) 0 [] := Row.made (cur := #[]) (allocNew w _) (by simp) (by unfold maxLen; omega) (Nat.le_refl _)
theorem str_all (l : List ByteArray) : ∀ u ∈ l.map Value.string, u.oneCell' = true := by
  intro u hu
  obtain ⟨x, _, rfl⟩ := List.mem_map.1 hu
  rfl
theorem MsgV.vals_cons (m : MsgV) (l : List MsgV) : MsgV.vals (m :: l) = m.cells.toList ++ MsgV.vals l := by simp [MsgV.vals]
theorem MsgV.vals_take : ∀ (l : List MsgV) (j : Nat), (MsgV.vals l).take (j * 7) = MsgV.vals (l.take j)
  | [], j => by simp [MsgV.vals]
  | p :: r, 0 => by simp [MsgV.vals]
  | p :: r, j + 1 => by
    rw [MsgV.vals_cons, List.take_succ_cons, MsgV.vals_cons, ← MsgV.vals_take r j, List.take_append]
    have h : p.cells.toList.length = 7 := rfl
    rw [List.take_of_length_le (by rw [h]; omega), h, show (j + 1) * 7 - 7 = j * 7 by omega]
theorem MsgV.vals_drop : ∀ (l : List MsgV) (j : Nat), (MsgV.vals l).drop (j * 7) = MsgV.vals (l.drop j)
  | [], j => by simp [MsgV.vals]
  | p :: r, 0 => by simp
  | p :: r, j + 1 => by
    rw [MsgV.vals_cons, List.drop_succ_cons, ← MsgV.vals_drop r j, List.drop_append]
    have h : p.cells.toList.length = 7 := rfl
    rw [List.drop_of_length_le (by rw [h]; omega), h, show (j + 1) * 7 - 7 = j * 7 by omega]
    rfl
/-- a row's beginning -/
theorem Row.cut {w : World} {f : Nat → Prop} {e : TypeId} {sz n cap m : Nat} {ad : Option Addr} {xs : List Value} (h : Row w f e sz (.slice ad n cap) n xs) (hm : m ≤ n) : Row w f e sz (.slice ad m cap) m (xs.take (m * sz)) := by
  obtain ⟨⟨hl, h1⟩, h2⟩ := h
  have hle : m * sz ≤ n * sz := Nat.mul_le_mul_right _ hm
  have hlen : (xs.take (m * sz)).length = m * sz := by rw [List.length_take, hl]; omega
  rcases h1 with ⟨e1, e2⟩ | ⟨g, cap', cur, e1, hb, hg, hn, hc, hs, ht⟩
  · cases e1
    obtain rfl : m = 0 := by omega
    exact ⟨⟨hlen, .inl ⟨rfl, rfl⟩⟩, fun g hg => by simp [Value.ownBlock] at hg⟩
  · cases e1
    exact ⟨⟨hlen, .inr ⟨g, _, cur, rfl, hb, hg, by omega, hc, hs, by rw [← ht, List.take_take, Nat.min_eq_left hle]⟩⟩, fun x hx => h2 x (by simpa [Value.ownBlock] using hx)⟩
/-- what is begun -/
theorem Reads.begin {w : World} {ad : Option Addr} {cap : Nat} {l m : List ByteArray} (h : Reads w (.slice ad l.length cap) l.length (l.map .string)) (h1 : m.length ≤ l.length) (h2 : l.take m.length = m) : Reads w (.slice ad m.length cap) m.length (m.map .string) := by
  obtain ⟨ad', cap', e, hn, hc, hg⟩ := h
  cases e
  refine ⟨_, _, rfl, by omega, hc, fun h0 => ?_⟩
  obtain ⟨g, o, rfl, hcg⟩ := hg (by omega)
  refine ⟨g, o, rfl, fun i u hu => ?_⟩
  refine hcg i u ?_
  rw [← h2, List.map_take, List.getElem?_take] at hu
  split at hu
  · exact hu
  · cases hu
set_option maxRecDepth 100000 in
theorem begin_any (a b : Value) (xs ys : List ByteArray) (w : World) (ha : Reads w a xs.length (xs.map .string)) (hb : Reads w b ys.length (ys.map .string)) (h1 : xs.length ≤ ys.length) (h2 : ys.take xs.length = xs) :
    Calls Try.prog 60 #[a, b] w fun e w' => e = .returned (.bool true) ∧ Mod (fun _ => False) w w' := by
  have HA := Lib.hid ha
  obtain ⟨aa, ac, rfl, han, hac, hag⟩ := ha
  obtain ⟨ba, bc, rfl, hbn, hbc, hbg⟩ := hb
  have HB : Hid (Reads w (.slice ba xs.length bc) xs.length (xs.map .string)) := Lib.hid (Reads.begin ⟨_, _, rfl, hbn, hbc, hbg⟩ h1 h2)
  have hbi : ¬ ((ys.length : Nat) : Int) < ((xs.length : Nat) : Int) := by omega
  have hbj : ((xs.length : Nat) : Int) ≤ ((ys.length : Nat) : Int) := by omega
  unfold maxLen at hac hbc
  clear hag hbg h2
  go_enter Try.func60, Try.ntmps60
  go_wp2_with fail
  refine (SameStr_any _ _ xs xs _ HA.out HB.out).mono ?_; rintro e wz ⟨rfl, hm⟩
  have HM := Lib.hid hm
  clear hm
  simp only [decide_true]
  go_wp2
  go_ret
  exact ⟨rfl, HM.out⟩
section
variable {w wr w' : World} {p q : Nat} {vn vu vh vd vt v : Value} {c : Nat → Nat} {S S' : LS}
theorem LivM.three (h : LivM w wr p q vn vu vh vd vt c S) : ∃ c', LivM w (((wr.alloc (.cells #[] 9)).alloc (.cells #[] 9)).alloc (.cells #[] 9)) p q vn vu (.slice (some ⟨wr.heap.size, 0, none⟩) 0 0) (.slice (some ⟨wr.heap.size + 1, 0, none⟩) 0 0) (.slice (some ⟨wr.heap.size + 1 + 1, 0, none⟩) 0 0) c' { S with heard := [], down := [], told := [] } ∧ ∀ k, k < wr.heap.size → c' k = c k := by
  obtain ⟨wA, hA⟩ : ∃ wA, wA = wr.alloc (.cells #[] 9) := ⟨_, rfl⟩
  obtain ⟨wB, hB⟩ : ∃ wB, wB = wA.alloc (.cells #[] 9) := ⟨_, rfl⟩
  obtain ⟨wC, hC⟩ : ∃ wC, wC = wB.alloc (.cells #[] 9) := ⟨_, rfl⟩
  have eA : wA.heap.size = wr.heap.size + 1 := by rw [hA]; simp
  have eB : wB.heap.size = wr.heap.size + 1 + 1 := by rw [hB]; simp [eA]
  have m1 : ∀ F, Mod F wr wA := fun F => hA ▸ (Mod.refl _ _).alloc _
  have m2 : ∀ F, Mod F wA wB := fun F => hB ▸ (Mod.refl _ _).alloc _
  have m3 : ∀ F, Mod F wB wC := fun F => hC ▸ (Mod.refl _ _).alloc _
  have h1 := h.rM (l' := []) ((hA ▸ Row.zero wr 9 1).mono fun k hk => .inr hk) (m1 _) rfl rfl
  have h2 := h1.dM (l' := []) ((hB ▸ Row.zero wA 9 1).mono fun k hk => .inr hk) (m2 _) rfl rfl
  have h3 := h2.tM (l' := []) ((hC ▸ Row.zero wB 9 1).mono fun k hk => .inr hk) (m3 _) rfl rfl
  rw [← hA, ← hB, ← hC]
  rw [eA, eB] at h3
  refine ⟨_, h3, fun k hk => ?_⟩
  unfold paint
  rw [if_neg (by omega), if_neg (by omega), if_neg (by omega)]
theorem LivM.two (h : LivM w wr p q vn vu vh vd vt c S) : ∃ c', LivM w ((wr.alloc (.cells #[] 9)).alloc (.cells #[] 9)) p q vn (.slice (some ⟨wr.heap.size, 0, none⟩) 0 0) vh vd (.slice (some ⟨wr.heap.size + 1, 0, none⟩) 0 0) c' { S with up := [], told := [] } := by
  obtain ⟨wA, hA⟩ : ∃ wA, wA = wr.alloc (.cells #[] 9) := ⟨_, rfl⟩
  obtain ⟨wB, hB⟩ : ∃ wB, wB = wA.alloc (.cells #[] 9) := ⟨_, rfl⟩
  have eA : wA.heap.size = wr.heap.size + 1 := by rw [hA]; simp
  have m1 : ∀ F, Mod F wr wA := fun F => hA ▸ (Mod.refl _ _).alloc _
  have m2 : ∀ F, Mod F wA wB := fun F => hB ▸ (Mod.refl _ _).alloc _
  have h1 := h.uM (l' := []) ((hA ▸ Row.zero wr 9 1).mono fun k hk => .inr hk) (m1 _) rfl rfl
  have h2 := h1.tM (l' := []) ((hB ▸ Row.zero wA 9 1).mono fun k hk => .inr hk) (m2 _) rfl rfl
  rw [← hA, ← hB]
  rw [eA] at h2
  exact ⟨_, h2⟩
theorem LivM.begin {w2 : World} {E : Life} {l : List Life} {G : Int → Option Int} (hC : Col w w2 c) (he : EndAt w2 p (fun k => c k = 1) E) (hh : HubAt w2 (fun k => c k = 2) q l G) :
    ∃ c', LivM w (((((w2.alloc (.cells #[] 65)).alloc (.cells #[] 9)).alloc (.cells #[] 9)).alloc (.cells #[] 9)).alloc (.cells #[] 9)) p q (.slice (some ⟨w2.heap.size, 0, none⟩) 0 0) (.slice (some ⟨w2.heap.size + 1, 0, none⟩) 0 0) (.slice (some ⟨w2.heap.size + 1 + 1, 0, none⟩) 0 0) (.slice (some ⟨w2.heap.size + 1 + 1 + 1, 0, none⟩) 0 0) (.slice (some ⟨w2.heap.size + 1 + 1 + 1 + 1, 0, none⟩) 0 0) c' ⟨E, l, G, [], [], [], [], []⟩ := by
  obtain ⟨wA, hA⟩ : ∃ wA, wA = w2.alloc (.cells #[] 65) := ⟨_, rfl⟩
  obtain ⟨wB, hB⟩ : ∃ wB, wB = wA.alloc (.cells #[] 9) := ⟨_, rfl⟩
  have eA : wA.heap.size = w2.heap.size + 1 := by rw [hA]; simp
  have eB : wB.heap.size = w2.heap.size + 1 + 1 := by rw [hB]; simp [eA]
  have m1 : ∀ F, Mod F w2 wA := fun F => hA ▸ (Mod.refl _ _).alloc _
  have m2 : ∀ F, Mod F wA wB := fun F => hB ▸ (Mod.refl _ _).alloc _
  have h0 : LivM w w2 p q (.slice none 0 0) (.slice none 0 0) (.slice none 0 0) (.slice none 0 0) (.slice none 0 0) c ⟨E, l, G, [], [], [], [], []⟩ := ⟨hC, he, hh, Row.nil _ _ _ _, Row.nil _ _ _ _, Row.nil _ _ _ _, Row.nil _ _ _ _, Row.nil _ _ _ _⟩
  have h1 := h0.nM (l' := []) ((hA ▸ Row.zero w2 65 7).mono fun k hk => .inr hk) (m1 _) rfl rfl
  have h2 := h1.uM (l' := []) ((hB ▸ Row.zero wA 9 1).mono fun k hk => .inr hk) (m2 _) rfl rfl
  obtain ⟨c', h3, _⟩ := h2.three
  rw [eA, eB] at h3
  rw [← hA, ← hB]
  exact ⟨c', h3⟩
end
/-- a rune's text -/
theorem rune_txt (x : Int) (w : World) : (convert 21 9 (.int .i32 x)).run Try.prog w = .ok (.string (Utf8.encode x)) w := by simp [convert, run_underlying Try.underlying21, run_underlying Try.underlying9, Conv.intToString]
/-- the message's box; the steps' box -/
structure LivA (w wr : World) (p q pa : Nat) (vn vu vh vd vt : Value) (c : Nat → Nat) (S : LS) (k at_ : Int) : Prop where
  m : LivM w wr p q vn vu vh vd vt c S
  box : Blk wr pa 82 [.int .i64 k, .int .i64 at_]
  col : c pa = 9
end Go.Proofs.Ytidkapanpieflaa
