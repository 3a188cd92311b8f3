/- LinkCalm: a whole round, plain; what lies in memory. -/
import Derived.Test.YtidkapanpieflaaRcvTake
import Derived.Test.YtidkapanpieflaaSnd2
import Derived.Test.YtidkapanpieflaaHubT
import Derived.Test.YtidkapanpieflaaHubH
import Derived.Test.YtidkapanpieflaaLife5
import Derived.Test.YtidkapanpieflaaOwn
namespace Go.Proofs.Ytidkapanpieflaa
set_option linter.unusedVariables false
set_option linter.unusedSimpArgs false
/-- the packet of a place -/
def pk (a : Int) (l : List ByteArray) (i : Nat) : Pkt := ⟨Sr.add a i, l.getD i ByteArray.empty⟩
theorem pk_inj {a : Int} {i j : Nat} (hi : i < 1000000) (hj : j < 1000000) (h : Sr.add a i = Sr.add a j) : i = j := by
  unfold Sr.add at h
  omega
theorem pk_app {a : Int} {l : List ByteArray} {b : ByteArray} {i : Nat} (h : i < l.length) : pk a (l ++ [b]) i = pk a l i := by
  unfold pk
  congr 1
  simp [List.getD, List.getElem?_append_left h]
/-- s: the sender, r: the receiver; l: all that was pushed; d: how many are acknowledged, t: sent, e: told -/
structure Ord (a : Int) (s : Snd) (r : Rcv) (l : List ByteArray) (d t e : Nat) : Prop where
  a0 : 0 ≤ a
  a1 : a < 4294967296
  n : l.length ≤ 1000
  base : s.base = Sr.add a d
  bodies : s.bodies = l.drop d
  sent : s.sent = t - d
  dt : d ≤ t
  tl : t ≤ l.length
  tw : t ≤ d + s.wide
  next : r.next = Sr.add a e
  wide : r.wide = s.wide
  w0 : 1 ≤ s.wide
  w1 : s.wide ≤ 64
  de : d ≤ e
  et : e ≤ t
  held : ∀ p ∈ r.held, ∃ i, e ≤ i ∧ i < t ∧ p = pk a l i
  dry : Pkt.find r.held r.next = none
theorem Ord.start {a : Int} (h0 : 0 ≤ a) (h1 : a < 4294967296) {w : Nat} (hw0 : 1 ≤ w) (hw1 : w ≤ 64) : Ord a ⟨a, [], 0, w⟩ ⟨a, w, []⟩ [] 0 0 0 := by
  have e : Sr.add a (0 : Nat) = a := by unfold Sr.add; omega
  exact ⟨h0, h1, by simp, e.symm, rfl, rfl, Nat.le_refl _, by simp, by simp, e.symm, rfl, hw0, hw1, Nat.le_refl _, Nat.le_refl _, fun p hp => (by cases hp), rfl⟩
theorem Ord.push {a : Int} {s : Snd} {r : Rcv} {l : List ByteArray} {d t e : Nat} (h : Ord a s r l d t e) (b : ByteArray) (hn : l.length < 1000) : s.full = true ∧ Ord a (s.push b) r (l ++ [b]) d t e := by
  have hl : s.bodies.length ≤ l.length := by rw [h.bodies]; simp
  have hd := h.dt
  have ht := h.tl
  refine ⟨by unfold Snd.full; exact decide_eq_true (by omega), ?_⟩
  have e1 : s.push b = { s with bodies := s.bodies ++ [b] } := by unfold Snd.push; rw [if_pos (by omega)]
  rw [e1]
  refine ⟨h.a0, h.a1, by simp; omega, h.base, ?_, h.sent, h.dt, by simp; omega, h.tw, h.next, h.wide, h.w0, h.w1, h.de, h.et, fun p hp => ?_, h.dry⟩
  · show s.bodies ++ [b] = _
    rw [h.bodies, List.drop_append_of_le_length (by omega)]
  · obtain ⟨i, h1, h2, h3⟩ := h.held p hp
    exact ⟨i, h1, h2, by rw [h3, pk_app (by omega)]⟩
theorem Ord.pkts {a : Int} {s : Snd} {r : Rcv} {l : List ByteArray} {d t e : Nat} (h : Ord a s r l d t e) (x n : Nat) : s.pkts x n = (List.range n).map fun j => pk a l (d + x + j) := by
  unfold Snd.pkts
  apply List.map_congr_left
  intro j _
  unfold pk
  rw [h.base]
  congr 1
  · unfold Sr.add; omega
  · unfold Snd.at_
    rw [h.bodies]
    simp [List.getD, Nat.add_assoc]
/-- how many are sent, when all are sent that may be -/
def Ord.up (s : Snd) (l : List ByteArray) (d : Nat) : Nat := d + min (l.length - d) s.wide
theorem Ord.send {a : Int} {s : Snd} {r : Rcv} {l : List ByteArray} {d t e : Nat} (h : Ord a s r l d t e) : t ≤ Ord.up s l d ∧ Ord a s.send r l d (Ord.up s l d) e ∧ s.news = (List.range (Ord.up s l d - t)).map fun j => pk a l (t + j) := by
  have hd := h.dt
  have ht := h.tl
  have hw := h.tw
  have he := h.et
  have hs := h.sent
  have hle : t ≤ Ord.up s l d := by unfold Ord.up; omega
  have hb : s.bodies.length = l.length - d := by rw [h.bodies]; simp
  refine ⟨hle, ⟨h.a0, h.a1, h.n, h.base, h.bodies, ?_, by omega, by unfold Ord.up; omega, ?_, h.next, h.wide, h.w0, h.w1, h.de, by omega, fun p hp => ?_, h.dry⟩, ?_⟩
  · show min s.bodies.length s.wide = _
    rw [hb]; unfold Ord.up; omega
  · show Ord.up s l d ≤ d + s.wide
    unfold Ord.up; omega
  · obtain ⟨i, h1, h2, h3⟩ := h.held p hp
    exact ⟨i, h1, by omega, h3⟩
  · unfold Snd.news
    rw [h.pkts, hs, hb]
    have e1 : min (l.length - d) s.wide - (t - d) = Ord.up s l d - t := by unfold Ord.up; omega
    rw [e1]
    apply List.map_congr_left
    intro j _
    congr 1
    omega
theorem Ord.again {a : Int} {s : Snd} {r : Rcv} {l : List ByteArray} {d t e : Nat} (h : Ord a s r l d t e) : s.again = (List.range (t - d)).map fun j => pk a l (d + j) := by
  unfold Snd.again
  rw [h.pkts, h.sent]
  rfl
theorem Pkt.del_keep {l : List Pkt} {k : Int} {p : Pkt} (h : p ∈ l) (hk : ¬ p.seq = k) : p ∈ Pkt.del l k := by
  induction l with
  | nil => cases h
  | cons q r ih =>
    unfold Pkt.del
    rcases List.mem_cons.1 h with rfl | h
    · rw [if_neg hk]; simp
    · split
      · exact h
      · exact List.mem_cons_of_mem _ (ih h)
/-- what a receiver tells when it holds what it waits for -/
theorem drain_ord {a : Int} {l : List ByteArray} {t : Nat} (ht : t ≤ l.length) (hn : l.length ≤ 1000) : ∀ (n : Nat) (r : Rcv) (e : Nat), r.held.length = n → e ≤ t → r.next = Sr.add a e → (r.held.map (·.seq)).Nodup → (∀ p ∈ r.held, ∃ i, e ≤ i ∧ i < t ∧ p = pk a l i) →
    ∃ k, e + k ≤ t ∧ (r.drain n).1 = (l.drop e).take k ∧ (r.drain n).2.next = Sr.add a ((e + k : Nat) : Int) ∧ (r.drain n).2.wide = r.wide ∧ Pkt.find (r.drain n).2.held (r.drain n).2.next = none ∧
      (∀ p ∈ (r.drain n).2.held, ∃ i, e + k ≤ i ∧ i < t ∧ p = pk a l i) ∧ (∀ p ∈ r.held, p ∈ (r.drain n).2.held ∨ ∃ i, i < e + k ∧ p = pk a l i)
  | n, r, e, hl, he, hx, hnd, hh => by
    cases hf : Pkt.find r.held r.next with
    | none =>
      have : r.drain n = ([], r) := hl ▸ Rcv.drain_none hf
      rw [this]
      exact ⟨0, by omega, by simp, hx, rfl, hf, hh, fun p hp => .inl hp⟩
    | some x =>
      obtain ⟨hm, hs⟩ := Pkt.find_some hf
      obtain ⟨i, h1, h2, h3⟩ := hh x hm
      have hi : i = e := by
        refine pk_inj (a := a) (by omega) (by omega) ?_
        rw [← hx, ← hs, h3]
        rfl
      subst hi
      have hlen := Pkt.del_len hf
      have hsub := Pkt.del_sub r.held r.next
      obtain ⟨k, g1, g2, g3, g4, g5, g6, g7⟩ := drain_ord (a := a) ht hn (Pkt.del r.held r.next).length { r with next := Sr.add r.next 1, held := Pkt.del r.held r.next } (i + 1) rfl (by omega) (by show Sr.add r.next 1 = _; rw [hx]; unfold Sr.add; omega) (hnd.sublist (hsub.map _)) (fun p hp => by
        obtain ⟨j, q1, q2, q3⟩ := hh p (hsub.subset hp)
        have hne := Pkt.del_not _ _ hnd p hp
        refine ⟨j, ?_, q2, q3⟩
        rcases Nat.lt_or_ge i j with h | h
        · exact h
        · obtain rfl : j = i := by omega
          exact absurd (by rw [q3, hx]; rfl) hne)
      have hd := Rcv.drain_some hf
      rw [hl] at hd
      rw [hd]
      have e1 : i + 1 + k = i + (k + 1) := by omega
      rw [e1] at g3 g6 g7
      refine ⟨k + 1, by omega, ?_, g3, g4, g5, g6, fun p hp => ?_⟩
      · show x.body :: _ = _
        rw [g2, h3]
        have : i < l.length := by omega
        rw [List.drop_eq_getElem_cons this, List.take_succ_cons]
        congr 1
        simp [pk, List.getD, this]
      · by_cases hps : p.seq = r.next
        · refine .inr ?_
          obtain ⟨j, q1, q2, q3⟩ := hh p hp
          have : j = i := pk_inj (a := a) (by omega) (by omega) (by rw [← hx, ← hps, q3]; rfl)
          exact ⟨j, by omega, q3⟩
        · refine g7 p ?_
          exact Pkt.del_keep hp hps
termination_by n => n
decreasing_by omega
/-- a packet that was sent is taken -/
theorem Ord.take {a : Int} {s : Snd} {r : Rcv} {l : List ByteArray} {d t e : Nat} (h : Ord a s r l d t e) (hok : r.Ok) {i : Nat} (hi : i < t) :
    ∃ k, (r.take (pk a l i)).1 = (l.drop e).take k ∧ Ord a s (r.take (pk a l i)).2 l d t (e + k) ∧ (∀ p ∈ r.held, p ∈ (r.take (pk a l i)).2.held ∨ ∃ j, j < e + k ∧ p = pk a l j) ∧ (pk a l i ∈ (r.take (pk a l i)).2.held ∨ i < e + k) := by
  have hd := h.dt
  have ht := h.tl
  have hw := h.tw
  have he := h.et
  have hde := h.de
  have hn := h.n
  have hw0 := h.w0
  have hw1 := h.w1
  have hww := h.wide
  by_cases hie : i < e
  · have hno : Sr.within (pk a l i).seq r.next r.wide = false := by
      rw [h.next, hww]
      show Sr.within (Sr.add a i) _ _ = false
      unfold Sr.within Sr.add
      apply decide_eq_false
      split <;> (try split) <;> omega
    have : r.take (pk a l i) = ([], r) := by unfold Rcv.take; rw [hno]; rfl
    rw [this]
    exact ⟨0, by simp, h, fun p hp => .inl hp, .inr (by omega)⟩
  · have hyes : Sr.within (pk a l i).seq r.next r.wide = true := by
      rw [h.next, hww]
      show Sr.within (Sr.add a i) _ _ = true
      unfold Sr.within Sr.add
      apply decide_eq_true
      split <;> (try split) <;> omega
    have hok' := hok.put (Sr.add_bd a i).1 (Sr.add_bd a i).2 hyes
    have hnx : (r.put (pk a l i)).next = Sr.add a e := by unfold Rcv.put; split <;> exact h.next
    have hwd : (r.put (pk a l i)).wide = r.wide := by unfold Rcv.put; split <;> rfl
    have hsub : ∀ p ∈ r.held, p ∈ (r.put (pk a l i)).held := fun p hp => by unfold Rcv.put; split <;> simp [hp]
    have hmem : pk a l i ∈ (r.put (pk a l i)).held := by
      unfold Rcv.put
      split
      · rename_i hf
        obtain ⟨x, hx⟩ := Option.isSome_iff_exists.1 hf
        obtain ⟨q1, q2⟩ := Pkt.find_some hx
        obtain ⟨j, q3, q4, q5⟩ := h.held x q1
        have : j = i := pk_inj (a := a) (by omega) (by omega) (by
          have : (pk a l j).seq = (pk a l i).seq := by rw [← q5]; exact q2
          exact this)
        subst this
        rw [← q5]; exact q1
      · simp
    have hh : ∀ p ∈ (r.put (pk a l i)).held, ∃ j, e ≤ j ∧ j < t ∧ p = pk a l j := fun p hp => by
      unfold Rcv.put at hp
      split at hp
      · exact h.held p hp
      · rcases List.mem_append.1 hp with hp | hp
        · exact h.held p hp
        · exact ⟨i, by omega, hi, by simpa using hp⟩
    obtain ⟨k, g1, g2, g3, g4, g5, g6, g7⟩ := drain_ord ht hn _ (r.put (pk a l i)) e rfl he hnx hok'.nd hh
    have e1 : r.take (pk a l i) = (r.put (pk a l i)).drain (r.put (pk a l i)).held.length := by unfold Rcv.take; rw [if_pos hyes]
    rw [e1]
    refine ⟨k, g2, ⟨h.a0, h.a1, h.n, h.base, h.bodies, h.sent, h.dt, h.tl, h.tw, g3, by rw [g4, hwd, hww], h.w0, h.w1, by omega, g1, g6, g5⟩, fun p hp => g7 p (hsub p hp), ?_⟩
    rcases g7 _ hmem with q | ⟨j, q1, q2⟩
    · exact .inl q
    · have : i = j := pk_inj (a := a) (by omega) (by omega) (show (pk a l i).seq = (pk a l j).seq by rw [← q2])
      exact .inr (by omega)
/-- an acknowledgement, late or not -/
theorem Ord.ack {a : Int} {s : Snd} {r : Rcv} {l : List ByteArray} {d t e : Nat} (h : Ord a s r l d t e) {i : Nat} (hi : i ≤ e) : ∃ d', Ord a (s.ack (Sr.add a i)) r l d' t e ∧ d' = max d i := by
  have hd := h.dt
  have ht := h.tl
  have hw := h.tw
  have he := h.et
  have hde := h.de
  have hn := h.n
  have hw1 := h.w1
  have hs := h.sent
  have b0 := h.a0
  have b1 := h.a1
  have hg : s.acked (Sr.add a i) = i - d := by
    unfold Snd.acked
    rw [h.base, hs]
    unfold Sr.gap Sr.add
    split <;> (try split) <;> omega
  refine ⟨max d i, ?_, rfl⟩
  unfold Snd.ack
  rw [hg]
  by_cases hz : i - d = 0
  · rw [if_pos hz, show max d i = d by omega]
    exact h
  · rw [if_neg hz, show max d i = i by omega]
    refine ⟨h.a0, h.a1, h.n, rfl, ?_, ?_, by omega, h.tl, ?_, h.next, h.wide, h.w0, h.w1, hi, h.et, h.held, h.dry⟩
    · show s.bodies.drop _ = _
      rw [h.bodies, List.drop_drop]
      congr 1
      omega
    · show s.sent - (i - d) = _
      omega
    · show t ≤ i + s.wide
      omega
/-- all that was sent is held, or told: then it is told -/
theorem Ord.all {a : Int} {s : Snd} {r : Rcv} {l : List ByteArray} {d t e : Nat} (h : Ord a s r l d t e) (hall : ∀ i, d ≤ i → i < t → pk a l i ∈ r.held ∨ i < e) : e = t := by
  have he := h.et
  have hde := h.de
  rcases Nat.lt_or_ge e t with hlt | hge
  · rcases hall e hde hlt with hm | hm
    · have := Pkt.find_none h.dry _ hm
      exact absurd h.next.symm (by simpa [pk] using this)
    · omega
  · omega
end Go.Proofs.Ytidkapanpieflaa
namespace Go.Proofs.Ytidkapanpieflaa
set_option linter.unusedVariables false
set_option linter.unusedSimpArgs false
/-- an end and a hub, and how much was heard -/
structure CS where
  E : Life
  l : List Life
  G : Int → Option Int
  heard : Nat
/-- the hub hears a message; what it answers comes to the end -/
def CS.hear (S : CS) (m : MsgV) : CS := ⟨(hubHear S.l S.G m).2.2.1.foldl (fun E o => (E.ehear o).2.2) S.E, (hubHear S.l S.G m).2.2.2, S.G, (if (hubHear S.l S.G m).1 then 0 else S.heard) + (hubHear S.l S.G m).2.1.length⟩
def CS.all (S : CS) (ms : List MsgV) : CS := ms.foldl CS.hear S
/-- what the end sends -/
def Life.round (L : Life) : List MsgV := L.sends ++ L.sent.beat
def hubRound (l : List Life) : List MsgV := l.flatMap Life.sends ++ beats (l.map Life.sent)
def Life.hearAll (L : Life) (ms : List MsgV) : Life := ms.foldl (fun E o => (E.ehear o).2.2) L
def epc (e0 : Int) (c : Nat) : Int := Sr.add e0 c
theorem epc_gap (e0 : Int) {a b : Nat} (h : a < b) (hb : b ≤ 100000) : 0 < Sr.gap (epc e0 a) (epc e0 b) := by
  unfold epc Sr.gap Sr.add
  split <;> omega
theorem epc_same (x : Int) : ¬ 0 < Sr.gap x x := by unfold Sr.gap; split <;> omega
theorem epc_inj (e0 : Int) {a b : Nat} (ha : a ≤ 100000) (hb : b ≤ 100000) (h : epc e0 a = epc e0 b) : a = b := by
  unfold epc Sr.add at h; omega
theorem epc_succ (e0 : Int) (c : Nat) : Sr.add (epc e0 c) 1 = epc e0 (c + 1) := by unfold epc Sr.add; omega
/-- who it is, in which life -/
structure Eid (e0 : Int) (E : Life) (c : Nat) : Prop where
  node : E.node = 1
  up : E.up = true
  ep : E.epoch = epc e0 c
  inn : E.inn = ⟨0, 8, []⟩
structure Hq (H : Life) : Prop where
  node : H.node = 1
  up : H.up = false
  out : H.out = ⟨0, [], 0, 8⟩
def Older (e0 x : Int) (c : Nat) : Prop := ∃ b, b < c ∧ x = epc e0 b
theorem Older.next {e0 x : Int} {c : Nat} (h : Older e0 x c) : Older e0 x (c + 1) := by obtain ⟨b, h1, h2⟩ := h; exact ⟨b, by omega, h2⟩
theorem Older.gap {e0 x : Int} {c : Nat} (h : Older e0 x c) (hc : c ≤ 100000) : 0 < Sr.gap x (epc e0 c) := by obtain ⟨b, h1, rfl⟩ := h; exact epc_gap e0 h1 hc
def xB : ByteArray := ⟨#[120]⟩
/-- the hub does not know this life yet -/
structure P0 (e0 : Int) (S : CS) (ups : List ByteArray) (c t : Nat) : Prop where
  id : Eid e0 S.E c
  ord : Ord 0 S.E.out ⟨0, 8, []⟩ ups 0 t 0
  gone : ∀ g, S.G 1 = some g → Older e0 g c
  hub : S.l = [] ∨ ∃ H, S.l = [H] ∧ Hq H ∧ Older e0 H.epoch c
/-- the hub knows this life -/
structure P1 (e0 : Int) (S : CS) (ups : List ByteArray) (c d t e : Nat) (H : Life) : Prop where
  id : Eid e0 S.E c
  gone : ∀ g, S.G 1 = some g → Older e0 g c
  hub : S.l = [H]
  hq : Hq H
  hep : H.epoch = epc e0 c
  ord : Ord 0 S.E.out H.inn ups d t e
  ok : H.inn.Ok
  heard : S.heard = e
  w8 : S.E.out.wide = 8
/-- the hub has dropped this life -/
structure P2 (e0 : Int) (S : CS) (c : Nat) : Prop where
  id : Eid e0 S.E c
  hub : S.l = []
  gone : S.G 1 = some (epc e0 c)
/-- a message of the end's, in life c -/
structure Mid (e0 : Int) (m : MsgV) (c : Nat) : Prop where
  node : m.node = 1
  up : m.up = true
  ep : m.epoch = epc e0 c
  kind : m.kind = 1 ∨ m.kind = 2
  ack : m.ack = 0
theorem round_mid {e0 : Int} {E : Life} {c : Nat} (h : Eid e0 E c) : ∀ m ∈ E.round, Mid e0 m c := fun m hm => by
  have hn : E.inn.next = 0 := by rw [h.inn]
  unfold Life.round at hm
  rcases List.mem_append.1 hm with hm | hm
  · obtain ⟨p, _, rfl⟩ := List.mem_map.1 hm
    exact ⟨h.node, h.up, h.ep, .inr rfl, hn⟩
  · rw [Life.beat_eq] at hm
    rcases List.mem_cons.1 hm with rfl | hm
    · exact ⟨h.node, h.up, h.ep, .inl rfl, hn⟩
    · obtain ⟨p, _, rfl⟩ := List.mem_map.1 hm
      exact ⟨h.node, h.up, h.ep, .inr rfl, hn⟩
theorem ack_quiet (x : Int) : (⟨0, [], 0, 8⟩ : Snd).ack x = ⟨0, [], 0, 8⟩ := by
  have h : (⟨0, [], 0, 8⟩ : Snd).acked x = 0 := by
    unfold Snd.acked
    split
    · simp_all
    · rfl
  unfold Snd.ack
  rw [if_pos h]
/-- what a quiet life of the hub hears -/
theorem quiet_hear {H : Life} (h : Hq H) (m : MsgV) : (H.hear m).2 = { H with inn := (if m.kind = 2 then (H.inn.take ⟨m.seq, m.body⟩).2 else H.inn) } ∧ (H.hear m).1 = (if m.kind = 2 then (H.inn.take ⟨m.seq, m.body⟩).1 else []) := by
  unfold Life.hear
  by_cases hk : m.kind = 2
  · rw [if_pos hk, if_pos hk, if_pos hk]
    exact ⟨by rw [h.out, ack_quiet], rfl⟩
  · rw [if_neg hk, if_neg hk, if_neg hk]
    exact ⟨by rw [h.out, ack_quiet, ← h.out], rfl⟩
theorem quiet_fresh (ep : Int) : Hq (Life.fresh 1 false ep) := ⟨rfl, rfl, rfl⟩
theorem hput_one {x y : Life} (h : x.node = y.node) : hput Life.node [x] y = [y] := by
  unfold hput
  rw [List.filter_cons, List.filter_cons, if_neg (by simp; omega), if_neg (by simp; omega)]
  rfl
theorem hput_nil (y : Life) : hput Life.node [] y = [y] := rfl
theorem hfind_one {H : Life} (h : H.node = 1) : hfind Life.node [H] 1 = some H := by unfold hfind; simp [h]
/-- in phase 2: a refusal -/
theorem hear_p2 {e0 : Int} {l : List Life} {G : Int → Option Int} {m : MsgV} {c : Nat} (hm : Mid e0 m c) (hg : G 1 = some (epc e0 c)) : hubHear l G m = (false, [], [m.refuse], l) := by
  unfold hubHear
  rw [if_neg (by rw [hm.up]; rcases hm.kind with h | h <;> rw [h] <;> simp), if_pos]
  rw [hm.node, hg, hm.ep]
  simpa using epc_same (epc e0 c)
theorem not_gone {e0 : Int} {G : Int → Option Int} {m : MsgV} {c : Nat} (hc : c ≤ 100000) (hm : Mid e0 m c) (hg : ∀ g, G 1 = some g → Older e0 g c) : ¬ (G m.node).any (fun e => !decide (0 < Sr.gap e m.epoch)) = true := by
  rw [hm.node, hm.ep]
  cases h : G 1 with
  | none => simp
  | some g => have := (hg g h).gap hc; simp [this]
theorem deaf_no {m : MsgV} {e0 : Int} {c : Nat} (hm : Mid e0 m c) : ¬ (m.up = false ∨ (m.kind ≠ 1 ∧ m.kind ≠ 2)) := by rw [hm.up]; rcases hm.kind with h | h <;> rw [h] <;> simp
theorem hear_p0 {e0 : Int} {l : List Life} {G : Int → Option Int} {m : MsgV} {c : Nat} (hc : c ≤ 100000) (hm : Mid e0 m c) (hg : ∀ g, G 1 = some g → Older e0 g c) (hl : l = [] ∨ ∃ H, l = [H] ∧ Hq H ∧ Older e0 H.epoch c) :
    hubHear l G m = (true, ((Life.fresh 1 false (epc e0 c)).hear m).1, [], [((Life.fresh 1 false (epc e0 c)).hear m).2]) := by
  have hn : hubNew l m = (true, ((Life.fresh 1 false (epc e0 c)).hear m).1, [], [((Life.fresh 1 false (epc e0 c)).hear m).2]) := by
    unfold hubNew
    rw [hm.node, hm.ep]
    rcases hl with rfl | ⟨H, rfl, hq, _⟩
    · rfl
    · rw [hput_one (by rw [hq.node, Life.hear_node]; rfl)]
  unfold hubHear
  rw [if_neg (deaf_no hm), if_neg (not_gone hc hm hg), hm.node]
  rcases hl with rfl | ⟨H, rfl, hq, ho⟩
  · exact hn
  · rw [hfind_one hq.node]
    show (if 0 < Sr.gap H.epoch m.epoch then _ else _) = _
    rw [hm.ep, if_pos (ho.gap hc)]
    exact hn
theorem hear_p1 {e0 : Int} {H : Life} {G : Int → Option Int} {m : MsgV} {c : Nat} (hc : c ≤ 100000) (hm : Mid e0 m c) (hg : ∀ g, G 1 = some g → Older e0 g c) (hq : Hq H) (he : H.epoch = epc e0 c) :
    hubHear [H] G m = (false, (H.hear m).1, [], [(H.hear m).2]) := by
  unfold hubHear
  rw [if_neg (deaf_no hm), if_neg (not_gone hc hm hg), hm.node, hfind_one hq.node]
  show (if 0 < Sr.gap H.epoch m.epoch then _ else _) = _
  rw [hm.ep, he, if_neg (epc_same _), if_neg (fun h => h rfl), hput_one (by rw [Life.hear_node])]
theorem Rcv.Ok.drainOk : ∀ (n : Nat) (r : Rcv), r.Ok → (r.drain n).2.Ok
  | 0, r, h => h
  | n + 1, r, h => by
    unfold Rcv.drain
    split
    · exact h
    · exact Rcv.Ok.drainOk n _ h.step
theorem Rcv.Ok.takeOk {r : Rcv} (h : r.Ok) {p : Pkt} (h0 : 0 ≤ p.seq) (h1 : p.seq < 4294967296) : (r.take p).2.Ok := by
  unfold Rcv.take
  split
  · exact Rcv.Ok.drainOk _ _ (h.put h0 h1 (by assumption))
  · exact h
/-- a message of the end's that bears a body of the stream, or none -/
def Bears' (m : MsgV) (ups : List ByteArray) (t : Nat) : Prop := m.kind = 1 ∨ ∃ i, i < t ∧ m.kind = 2 ∧ (⟨m.seq, m.body⟩ : Pkt) = pk 0 ups i
/-- one message, where the life is known -/
theorem p1_hear {e0 : Int} {S : CS} {ups : List ByteArray} {c d t e : Nat} {H : Life} (h : P1 e0 S ups c d t e H) (hc : c ≤ 100000) {m : MsgV} (hm : Mid e0 m c) (hb : Bears' m ups t) :
    ∃ e' H', P1 e0 (S.hear m) ups c d t e' H' ∧ (S.hear m).E = S.E ∧ (S.hear m).G = S.G ∧ e ≤ e' ∧ (∀ p ∈ H.inn.held, p ∈ H'.inn.held ∨ ∃ j, j < e' ∧ p = pk 0 ups j) ∧ (∀ i, m.kind = 2 → (⟨m.seq, m.body⟩ : Pkt) = pk 0 ups i → i < t → pk 0 ups i ∈ H'.inn.held ∨ i < e') := by
  have hh := hear_p1 (G := S.G) hc hm h.gone h.hq h.hep
  have hS : S.hear m = ⟨S.E, [(H.hear m).2], S.G, S.heard + (H.hear m).1.length⟩ := by
    unfold CS.hear
    rw [h.hub, hh]
    rfl
  obtain ⟨q1, q2⟩ := quiet_hear h.hq m
  rcases hb with hk | ⟨i, hi, hk, hp⟩
  · have hk2 : ¬ m.kind = 2 := by rw [hk]; decide
    rw [if_neg hk2] at q1 q2
    rw [hS, q1, q2]
    exact ⟨e, H, ⟨h.id, h.gone, rfl, h.hq, h.hep, h.ord, h.ok, by simpa using h.heard, h.w8⟩, rfl, rfl, Nat.le_refl _, fun p hp => .inl hp, fun i hk' => absurd hk' hk2⟩
  · rw [if_pos hk] at q1 q2
    rw [hp] at q1 q2
    obtain ⟨k, h1, h2, h3, h4⟩ := h.ord.take h.ok hi
    have hseq : 0 ≤ (pk 0 ups i).seq ∧ (pk 0 ups i).seq < 4294967296 := Sr.add_bd _ _
    rw [hS, q1, q2]
    have hlen : (H.inn.take (pk 0 ups i)).1.length = k := by
      have hke := h2.et
      have htl := h2.tl
      rw [h1, List.length_take, List.length_drop]
      omega
    refine ⟨e + k, { H with inn := (H.inn.take (pk 0 ups i)).2 }, ⟨h.id, h.gone, rfl, ⟨h.hq.node, h.hq.up, h.hq.out⟩, h.hep, h2, h.ok.takeOk hseq.1 hseq.2, ?_, h.w8⟩, rfl, rfl, by omega, h3, fun j _ hpj hjt => ?_⟩
    · show S.heard + (H.inn.take (pk 0 ups i)).1.length = e + k
      rw [hlen, h.heard]
    · have hij : i = j := by
        have hn := h.ord.n
        have htl := h.ord.tl
        rw [hp] at hpj
        have := congrArg Pkt.seq hpj
        exact pk_inj (a := 0) (by omega) (by omega) this
      subst hij
      exact h4
theorem pk_of_seen {ups : List ByteArray} {x : Pkt} {H H' : List Pkt} {e e' i : Nat} (hc : ∀ p ∈ H, p ∈ H' ∨ ∃ j, j < e' ∧ p = pk 0 ups j) (he : e ≤ e') (hn : i < 1000000) (hb : ∀ j, j < e' → j < 1000000) (h : pk 0 ups i ∈ H ∨ i < e) : pk 0 ups i ∈ H' ∨ i < e' := by
  rcases h with h | h
  · rcases hc _ h with h | ⟨j, hj, hp⟩
    · exact .inl h
    · have := pk_inj (a := 0) hn (hb j hj) (congrArg Pkt.seq hp)
      exact .inr (by omega)
  · exact .inr (by omega)
/-- some messages, where the life is known -/
theorem p1_all {e0 : Int} {ups : List ByteArray} {c d t : Nat} (hc : c ≤ 100000) : ∀ (ms : List MsgV) (S : CS) (e : Nat) (H : Life), P1 e0 S ups c d t e H → (∀ m ∈ ms, Mid e0 m c ∧ Bears' m ups t) →
    ∃ e' H', P1 e0 (S.all ms) ups c d t e' H' ∧ (S.all ms).E = S.E ∧ (S.all ms).G = S.G ∧ e ≤ e' ∧ (∀ p ∈ H.inn.held, p ∈ H'.inn.held ∨ ∃ j, j < e' ∧ p = pk 0 ups j) ∧ (∀ i, i < t → (∃ m ∈ ms, m.kind = 2 ∧ (⟨m.seq, m.body⟩ : Pkt) = pk 0 ups i) → pk 0 ups i ∈ H'.inn.held ∨ i < e')
  | [], S, e, H, h, _ => ⟨e, H, h, rfl, rfl, Nat.le_refl _, fun p hp => .inl hp, fun i hi ⟨m, hm, _⟩ => (by cases hm)⟩
  | m :: ms, S, e, H, h, hms => by
    obtain ⟨hm1, hm2⟩ := hms m List.mem_cons_self
    obtain ⟨e1, H1, h1, a1, a2, a3, a4, a5⟩ := p1_hear h hc hm1 hm2
    obtain ⟨e2, H2, h2, b1, b2, b3, b4, b5⟩ := p1_all hc ms (S.hear m) e1 H1 h1 fun x hx => hms x (List.mem_cons_of_mem _ hx)
    have hn := h.ord.n
    have htl := h.ord.tl
    have he2 := h2.ord.et
    have he1 := h1.ord.et
    refine ⟨e2, H2, h2, b1.trans a1, b2.trans a2, Nat.le_trans a3 b3, fun p hp => ?_, fun i hi ⟨x, hx, hk, hp⟩ => ?_⟩
    · rcases a4 p hp with h | ⟨j, hj, hp⟩
      · exact b4 p h
      · exact .inr ⟨j, by omega, hp⟩
    · rcases List.mem_cons.1 hx with rfl | hx
      · exact pk_of_seen (x := pk 0 ups i) b4 b3 (by omega) (fun j hj => by omega) (a5 i hk hp hi)
      · exact b5 i hi ⟨x, hx, hk, hp⟩
/-- where the life is not known yet, the first message is heard as if it were, just now -/
theorem p0_first {e0 : Int} {S : CS} {ups : List ByteArray} {c t : Nat} (h : P0 e0 S ups c t) (hc : c ≤ 100000) {m : MsgV} (hm : Mid e0 m c) :
    P1 e0 { S with l := [Life.fresh 1 false (epc e0 c)], heard := 0 } ups c 0 t 0 (Life.fresh 1 false (epc e0 c)) ∧ S.hear m = CS.hear { S with l := [Life.fresh 1 false (epc e0 c)], heard := 0 } m := by
  have hP : P1 e0 { S with l := [Life.fresh 1 false (epc e0 c)], heard := 0 } ups c 0 t 0 (Life.fresh 1 false (epc e0 c)) :=
    ⟨h.id, h.gone, rfl, quiet_fresh _, rfl, h.ord, ⟨Int.le_refl 0, (show (0 : Int) < 4294967296 by decide), (show 1 ≤ 8 by decide), (show 8 ≤ 64 by decide), List.nodup_nil, fun p hp => (by cases hp)⟩, rfl, h.ord.wide.symm⟩
  refine ⟨hP, ?_⟩
  have e2 := hear_p1 (H := Life.fresh 1 false (epc e0 c)) (G := S.G) hc hm h.gone (quiet_fresh _) rfl
  unfold CS.hear
  rw [hear_p0 hc hm h.gone h.hub]
  dsimp only
  rw [e2]
  simp
theorem sent_eid {e0 : Int} {E : Life} {c : Nat} (h : Eid e0 E c) : Eid e0 E.sent c := ⟨h.node, h.up, h.ep, h.inn⟩
/-- what a round of an end's bears -/
theorem round_bears {e0 : Int} {E : Life} {r : Rcv} {ups : List ByteArray} {c d t e : Nat} (hi : Eid e0 E c) (h : Ord 0 E.out r ups d t e) :
    (∀ m ∈ E.round, Mid e0 m c ∧ Bears' m ups (Ord.up E.out ups d)) ∧ (∀ i, d ≤ i → i < Ord.up E.out ups d → ∃ m ∈ E.round, m.kind = 2 ∧ (⟨m.seq, m.body⟩ : Pkt) = pk 0 ups i) := by
  obtain ⟨h1, h2, h3⟩ := h.send
  have h4 := h2.again
  constructor
  · intro m hm
    refine ⟨round_mid hi m hm, ?_⟩
    unfold Life.round at hm
    rcases List.mem_append.1 hm with hm | hm
    · obtain ⟨p, hp, rfl⟩ := List.mem_map.1 hm
      rw [h3] at hp
      obtain ⟨j, hj, rfl⟩ := List.mem_map.1 hp
      exact .inr ⟨t + j, by have := List.mem_range.1 hj; omega, rfl, rfl⟩
    · rw [Life.beat_eq] at hm
      rcases List.mem_cons.1 hm with rfl | hm
      · exact .inl rfl
      · obtain ⟨p, hp, rfl⟩ := List.mem_map.1 hm
        change p ∈ E.out.send.again at hp
        rw [h4] at hp
        obtain ⟨j, hj, rfl⟩ := List.mem_map.1 hp
        exact .inr ⟨d + j, by have := List.mem_range.1 hj; omega, rfl, rfl⟩
  · intro i hd hi
    refine ⟨E.sent.body (pk 0 ups i), ?_, rfl, rfl⟩
    unfold Life.round
    rw [Life.beat_eq]
    refine List.mem_append.2 (.inr (List.mem_cons_of_mem _ (List.mem_map.2 ⟨pk 0 ups i, ?_, rfl⟩)))
    show _ ∈ E.out.send.again
    rw [h4]
    exact List.mem_map.2 ⟨i - d, List.mem_range.2 (by omega), by rw [show d + (i - d) = i by omega]⟩
/-- the hub hears all that an end sends: then it has all of it -/
theorem p1_round {e0 : Int} {S : CS} {ups : List ByteArray} {c d t e : Nat} {H : Life} (hc : c ≤ 100000) (h : P1 e0 S ups c d t e H) :
    ∃ H', P1 e0 (CS.all { S with E := S.E.sent } S.E.round) ups c d (Ord.up S.E.out ups d) (Ord.up S.E.out ups d) H' := by
  obtain ⟨hb, hcov⟩ := round_bears h.id h.ord
  obtain ⟨_, h2, _⟩ := h.ord.send
  have hP : P1 e0 { S with E := S.E.sent } ups c d (Ord.up S.E.out ups d) e H := ⟨sent_eid h.id, h.gone, h.hub, h.hq, h.hep, h2, h.ok, h.heard, h.w8⟩
  obtain ⟨e', H', h3, _, _, _, _, h4⟩ := p1_all hc S.E.round _ e H hP hb
  have he : e' = Ord.up S.E.out ups d := h3.ord.all fun i hd hi => h4 i hi (hcov i hd hi)
  rw [he] at h3
  exact ⟨H', h3⟩
theorem round_ne (E : Life) : ∃ m ms, E.round = m :: ms := by
  cases h : E.round with
  | nil =>
    have := congrArg List.length h
    unfold Life.round at this
    rw [Life.beat_eq] at this
    simp at this
  | cons m ms => exact ⟨m, ms, rfl⟩
theorem p0_round {e0 : Int} {S : CS} {ups : List ByteArray} {c t : Nat} (hc : c ≤ 100000) (h : P0 e0 S ups c t) :
    ∃ H', P1 e0 (CS.all { S with E := S.E.sent } S.E.round) ups c 0 (Ord.up S.E.out ups 0) (Ord.up S.E.out ups 0) H' := by
  obtain ⟨hb, hcov⟩ := round_bears h.id h.ord
  obtain ⟨_, h2, _⟩ := h.ord.send
  have hP : P0 e0 { S with E := S.E.sent } ups c (Ord.up S.E.out ups 0) := ⟨sent_eid h.id, h2, h.gone, h.hub⟩
  obtain ⟨m, ms, hms⟩ := round_ne S.E
  rw [hms] at hb hcov ⊢
  obtain ⟨hP1, he⟩ := p0_first hP hc (hb m List.mem_cons_self).1
  have hall : CS.all { S with E := S.E.sent } (m :: ms) = CS.all { S with E := S.E.sent, l := [Life.fresh 1 false (epc e0 c)], heard := 0 } (m :: ms) := by
    show CS.all (CS.hear _ m) ms = CS.all (CS.hear _ m) ms
    rw [he]
  rw [hall]
  obtain ⟨e', H', h3, _, _, _, _, h4⟩ := p1_all hc (m :: ms) _ 0 _ hP1 hb
  have he : e' = Ord.up S.E.out ups 0 := h3.ord.all fun i hd hi => h4 i hi (hcov i hd hi)
  rw [he] at h3
  exact ⟨H', h3⟩
end Go.Proofs.Ytidkapanpieflaa
namespace Go.Proofs.Ytidkapanpieflaa
set_option linter.unusedVariables false
set_option linter.unusedSimpArgs false
theorem next_eid {e0 : Int} {E : Life} {c : Nat} (h : Eid e0 E c) : Eid e0 E.next (c + 1) := ⟨h.node, rfl, by show Sr.add E.epoch 1 = _; rw [h.ep, epc_succ], rfl⟩
theorem next_p0 {e0 : Int} {E : Life} {c : Nat} (h : Eid e0 E c) (l : List Life) (G : Int → Option Int) (hd : Nat) (hg : ∀ g, G 1 = some g → Older e0 g (c + 1)) (hl : l = [] ∨ ∃ H, l = [H] ∧ Hq H ∧ Older e0 H.epoch (c + 1)) : P0 e0 ⟨E.next, l, G, hd⟩ [] (c + 1) 0 :=
  ⟨next_eid h, Ord.start (a := 0) (w := 8) (by decide) (by decide) (by decide) (by decide), hg, hl⟩
theorem deaf_refuse {e0 : Int} {E : Life} {m : MsgV} {c c' : Nat} (hc : c ≤ 100000) (hc' : c' ≤ 100000) (hm : Mid e0 m c) (h : Eid e0 E c') (hne : c' ≠ c) : (E.ehear m.refuse).2.2 = E := by
  unfold Life.ehear
  rw [if_pos]
  right; right; left
  show m.epoch ≠ E.epoch
  rw [hm.ep, h.ep]
  exact fun e => hne (epc_inj e0 hc hc' e).symm
theorem take_refuse {e0 : Int} {E : Life} {m : MsgV} {c : Nat} (hm : Mid e0 m c) (h : Eid e0 E c) : (E.ehear m.refuse).2.2 = E.next := by
  unfold Life.ehear
  rw [if_neg, if_pos (show m.refuse.kind = 3 from rfl)]
  intro hd
  rcases hd with h1 | h1 | h1 | h1 | h1
  · cases h1
  · exact h1 (by show m.node = E.node; rw [hm.node, h.node])
  · exact h1 (by show m.epoch = E.epoch; rw [hm.ep, h.ep])
  · exact absurd h1 (by show ¬ (3 : Int) < 1; decide)
  · exact absurd h1 (by show ¬ (3 : Int) < 3; decide)
theorem p2_late {e0 : Int} {G : Int → Option Int} {c : Nat} (hc : c + 1 ≤ 100000) (hg : G 1 = some (epc e0 c)) (hd : Nat) {E : Life} (hE : Eid e0 E (c + 1)) : ∀ ms : List MsgV, (∀ m ∈ ms, Mid e0 m c) → CS.all ⟨E, [], G, hd⟩ ms = ⟨E, [], G, hd⟩
  | [], _ => rfl
  | m :: ms, h => by
    have hm := h m List.mem_cons_self
    have e : CS.hear ⟨E, [], G, hd⟩ m = ⟨E, [], G, hd⟩ := by
      unfold CS.hear
      rw [hear_p2 hm hg]
      show (⟨(E.ehear m.refuse).2.2, [], G, hd + 0⟩ : CS) = _
      rw [deaf_refuse (by omega) hc hm hE (by omega)]
      rfl
    show CS.all (CS.hear ⟨E, [], G, hd⟩ m) ms = _
    rw [e]
    exact p2_late hc hg hd hE ms fun x hx => h x (List.mem_cons_of_mem _ hx)
theorem p2_round {e0 : Int} {S : CS} {c : Nat} (hc : c + 1 ≤ 100000) (h : P2 e0 S c) : ∃ hd, CS.all { S with E := S.E.sent } S.E.round = ⟨S.E.sent.next, [], S.G, hd⟩ := by
  have hmid := round_mid h.id
  obtain ⟨m, ms, hms⟩ := round_ne S.E
  rw [hms] at hmid ⊢
  have hm := hmid m List.mem_cons_self
  have e : CS.hear { S with E := S.E.sent } m = ⟨S.E.sent.next, [], S.G, S.heard⟩ := by
    unfold CS.hear
    show (⟨_, _, _, _⟩ : CS) = _
    rw [h.hub, hear_p2 hm h.gone]
    show (⟨(S.E.sent.ehear m.refuse).2.2, [], S.G, S.heard + 0⟩ : CS) = _
    rw [take_refuse hm (sent_eid h.id)]
    rfl
  refine ⟨S.heard, ?_⟩
  show CS.all (CS.hear _ m) ms = _
  rw [e]
  exact p2_late hc h.gone _ (next_eid (sent_eid h.id)) ms fun x hx => hmid x (List.mem_cons_of_mem _ hx)
/-- what the hub then sends: a hello, or nothing -/
theorem hubRound_nil : hubRound [] = [] := rfl
theorem Hq.sent {H : Life} (h : Hq H) : H.sent = H ∧ H.sends = [] ∧ H.agains = [] := by
  obtain ⟨n, u, ep, o, i⟩ := H
  have ho : o = ⟨0, [], 0, 8⟩ := h.out
  subst ho
  exact ⟨rfl, rfl, rfl⟩
theorem hubRound_one {H : Life} (h : Hq H) : hubRound [H] = [H.hello] := by
  obtain ⟨h1, h2, h3⟩ := h.sent
  unfold hubRound beats
  simp [h1, h2, h3]
theorem ack_wide (s : Snd) (x : Int) : (s.ack x).wide = s.wide := by unfold Snd.ack; split <;> rfl
theorem push_wide (s : Snd) (b : ByteArray) : (s.push b).wide = s.wide := by unfold Snd.push; split <;> rfl
/-- the end hears the hub's hello -/
theorem p1_ack {e0 : Int} {S : CS} {ups : List ByteArray} {c d t e : Nat} {H : Life} (h : P1 e0 S ups c d t e H) : P1 e0 { S with E := S.E.hearAll [H.hello] } ups c (max d e) t e H := by
  have hh : (S.E.ehear H.hello).2.2 = { S.E with out := S.E.out.ack H.inn.next } := by
    unfold Life.ehear
    rw [if_neg, if_neg (show ¬ H.hello.kind = 3 by show ¬ (1 : Int) = 3; decide)]
    · show (S.E.hear H.hello).2 = _
      unfold Life.hear
      rw [if_neg (show ¬ H.hello.kind = 2 by show ¬ (1 : Int) = 2; decide)]
      rfl
    · intro hd
      rcases hd with h1 | h1 | h1 | h1 | h1
      · rw [show H.hello.up = H.up from rfl, h.hq.up] at h1; cases h1
      · exact h1 (by show H.node = S.E.node; rw [h.hq.node, h.id.node])
      · exact h1 (by show H.epoch = S.E.epoch; rw [h.hep, h.id.ep])
      · exact absurd h1 (by show ¬ (1 : Int) < 1; decide)
      · exact absurd h1 (by show ¬ (3 : Int) < 1; decide)
  obtain ⟨d', h1, rfl⟩ := h.ord.ack (i := e) (Nat.le_refl _)
  have hall : S.E.hearAll [H.hello] = { S.E with out := S.E.out.ack H.inn.next } := hh
  rw [hall, h.ord.next]
  exact ⟨⟨h.id.node, h.id.up, h.id.ep, h.id.inn⟩, h.gone, h.hub, h.hq, h.hep, h1, h.ok, h.heard, (ack_wide _ _).trans h.w8⟩
/- the steps of a round -/
def CS.push (S : CS) : CS := { S with E := { S.E with out := S.E.out.push xB } }
def CS.crash (S : CS) : CS := { S with E := S.E.next }
def CS.drop (S : CS) : CS := ⟨S.E, hdel Life.node S.l 1, ((hfind Life.node S.l 1).elim S.G fun L => fun k => if k = 1 then some L.epoch else S.G k), if (hfind Life.node S.l 1).isSome then 0 else S.heard⟩
def CS.mid (S : CS) (k : Int) : CS := if k = 2 ∨ k = 3 then CS.all { S with E := S.E.sent } S.E.round else { S with E := S.E.sent }
def CS.fin (S : CS) (k : Int) : CS := ⟨if k = 2 then S.E.hearAll (hubRound S.l) else S.E, S.l.map Life.sent, S.G, S.heard⟩
/-- a phase, with how many bodies were pushed in this life -/
def Phase (e0 : Int) (S : CS) (n c : Nat) : Prop := (∃ ups t, ups.length = n ∧ P0 e0 S ups c t) ∨ (∃ ups d t e H, ups.length = n ∧ P1 e0 S ups c d t e H) ∨ P2 e0 S c
/-- .. and how many calm rounds are enough -/
def PhaseM (e0 : Int) (S : CS) (n c left : Nat) : Prop := (∃ ups t, ups.length = n ∧ P0 e0 S ups c t ∧ n + 8 ≤ 8 * left) ∨ (∃ ups d t e H, ups.length = n ∧ P1 e0 S ups c d t e H ∧ n ≤ d + 8 * left) ∨ (P2 e0 S c ∧ 2 ≤ left)
theorem Phase.id {e0 : Int} {S : CS} {n c : Nat} (h : Phase e0 S n c) : Eid e0 S.E c := by
  rcases h with ⟨_, _, _, h⟩ | ⟨_, _, _, _, _, _, h⟩ | h <;> exact h.id
theorem Phase.measure {e0 : Int} {S : CS} {n c : Nat} (h : Phase e0 S n c) (hn : n ≤ 100) : PhaseM e0 S n c 20 := by
  rcases h with ⟨ups, t, h1, h⟩ | ⟨ups, d, t, e, H, h1, h⟩ | h
  · exact .inl ⟨ups, t, h1, h, by omega⟩
  · exact .inr (.inl ⟨ups, d, t, e, H, h1, h, by omega⟩)
  · exact .inr (.inr ⟨h, by omega⟩)
theorem PhaseM.phase {e0 : Int} {S : CS} {n c left : Nat} (h : PhaseM e0 S n c left) : Phase e0 S n c := by
  rcases h with ⟨ups, t, h1, h, _⟩ | ⟨ups, d, t, e, H, h1, h, _⟩ | ⟨h, _⟩
  · exact .inl ⟨ups, t, h1, h⟩
  · exact .inr (.inl ⟨ups, d, t, e, H, h1, h⟩)
  · exact .inr (.inr h)
theorem Phase.push {e0 : Int} {S : CS} {n c : Nat} (h : Phase e0 S n c) (hn : n < 900) : Phase e0 S.push (if S.E.out.full then n + 1 else n) c := by
  rcases h with ⟨ups, t, h1, h⟩ | ⟨ups, d, t, e, H, h1, h⟩ | h
  · obtain ⟨hf, ho⟩ := h.ord.push xB (by omega)
    rw [if_pos hf]
    exact .inl ⟨ups ++ [xB], t, by simp [h1], ⟨⟨h.id.node, h.id.up, h.id.ep, h.id.inn⟩, ho, h.gone, h.hub⟩⟩
  · obtain ⟨hf, ho⟩ := h.ord.push xB (by omega)
    rw [if_pos hf]
    exact .inr (.inl ⟨ups ++ [xB], d, t, e, H, by simp [h1], ⟨⟨h.id.node, h.id.up, h.id.ep, h.id.inn⟩, h.gone, h.hub, h.hq, h.hep, ho, h.ok, h.heard, (push_wide _ _).trans h.w8⟩⟩)
  · exact .inr (.inr ⟨⟨h.id.node, h.id.up, h.id.ep, h.id.inn⟩, h.hub, h.gone⟩)
theorem Phase.crash {e0 : Int} {S : CS} {n c : Nat} (h : Phase e0 S n c) : Phase e0 S.crash 0 (c + 1) := by
  rcases h with ⟨ups, t, h1, h⟩ | ⟨ups, d, t, e, H, h1, h⟩ | h
  · exact .inl ⟨[], 0, rfl, next_p0 h.id _ _ _ (fun g hg => (h.gone g hg).next) (h.hub.imp (fun x => x) fun ⟨H, a, b, o⟩ => ⟨H, a, b, o.next⟩)⟩
  · exact .inl ⟨[], 0, rfl, next_p0 h.id _ _ _ (fun g hg => (h.gone g hg).next) (.inr ⟨H, h.hub, h.hq, c, by omega, h.hep⟩)⟩
  · exact .inl ⟨[], 0, rfl, next_p0 h.id _ _ _ (fun g hg => ⟨c, by omega, by rw [h.gone] at hg; cases hg; rfl⟩) (.inl h.hub)⟩
theorem hdel_one {H : Life} (h : H.node = 1) : hdel Life.node [H] 1 = [] := by unfold hdel; simp [h]
theorem Phase.drop {e0 : Int} {S : CS} {n c : Nat} (h : Phase e0 S n c) : Phase e0 S.drop n c := by
  rcases h with ⟨ups, t, h1, h⟩ | ⟨ups, d, t, e, H, h1, h⟩ | h
  · refine .inl ⟨ups, t, h1, ⟨h.id, h.ord, fun g hg => ?_, .inl ?_⟩⟩
    · rcases h.hub with hl | ⟨H, hl, hq, ho⟩
      · unfold CS.drop at hg; rw [hl] at hg; exact h.gone g hg
      · unfold CS.drop at hg
        rw [hl] at hg
        simp only [hfind_one hq.node, Option.elim_some] at hg
        cases hg
        exact ho
    · show hdel Life.node S.l 1 = []
      rcases h.hub with hl | ⟨H, hl, hq, ho⟩
      · rw [hl]; rfl
      · rw [hl]; exact hdel_one hq.node
  · refine .inr (.inr ⟨h.id, ?_, ?_⟩)
    · show hdel Life.node S.l 1 = []
      rw [h.hub]; exact hdel_one h.hq.node
    · unfold CS.drop
      rw [h.hub]
      simp only [hfind_one h.hq.node, Option.elim_some, if_pos]
      rw [h.hep]
  · refine .inr (.inr ⟨h.id, ?_, ?_⟩)
    · show hdel Life.node S.l 1 = []
      rw [h.hub]; rfl
    · unfold CS.drop
      rw [h.hub]
      exact h.gone
/-- behind the hub's own sending nothing of it has changed -/
theorem Phase.hubSent {e0 : Int} {S : CS} {n c : Nat} (h : Phase e0 S n c) : S.l.map Life.sent = S.l := by
  rcases h with ⟨ups, t, h1, h⟩ | ⟨ups, d, t, e, H, h1, h⟩ | h
  · rcases h.hub with hl | ⟨H, hl, hq, ho⟩
    · rw [hl]; rfl
    · rw [hl, List.map_cons, List.map_nil, hq.sent.1]
  · rw [h.hub, List.map_cons, List.map_nil, h.hq.sent.1]
  · rw [h.hub]; rfl
theorem Phase.sent {e0 : Int} {S : CS} {n c : Nat} (h : Phase e0 S n c) : Phase e0 { S with E := S.E.sent } n c := by
  rcases h with ⟨ups, t, h1, h⟩ | ⟨ups, d, t, e, H, h1, h⟩ | h
  · obtain ⟨_, h2, _⟩ := h.ord.send
    exact .inl ⟨ups, _, h1, ⟨sent_eid h.id, h2, h.gone, h.hub⟩⟩
  · obtain ⟨_, h2, _⟩ := h.ord.send
    exact .inr (.inl ⟨ups, d, _, e, H, h1, ⟨sent_eid h.id, h.gone, h.hub, h.hq, h.hep, h2, h.ok, h.heard, h.w8⟩⟩)
  · exact .inr (.inr ⟨sent_eid h.id, h.hub, h.gone⟩)
/-- the hub has heard a round -/
def Calmed (e0 : Int) (S : CS) (n c : Nat) : Prop := (∃ ups t, ups.length = n ∧ P0 e0 S ups c t ∧ S.l = []) ∨ (∃ ups d t e H, ups.length = n ∧ P1 e0 S ups c d t e H)
theorem Calmed.phase {e0 : Int} {S : CS} {n c : Nat} (h : Calmed e0 S n c) : Phase e0 S n c := by
  rcases h with ⟨ups, t, h1, h, _⟩ | ⟨ups, d, t, e, H, h1, h⟩
  · exact .inl ⟨ups, t, h1, h⟩
  · exact .inr (.inl ⟨ups, d, t, e, H, h1, h⟩)
theorem Phase.midC {e0 : Int} {S : CS} {n c : Nat} (hc : c + 1 ≤ 100000) (h : Phase e0 S n c) {k : Int} (hk : k = 2 ∨ k = 3) : ∃ n' c', Calmed e0 (S.mid k) n' c' ∧ c ≤ c' ∧ c' ≤ c + 1 ∧ (c' = c → n' = n) ∧ (c' ≠ c → n' = 0) := by
  unfold CS.mid
  rw [if_pos hk]
  rcases h with ⟨ups, t, h1, h⟩ | ⟨ups, d, t, e, H, h1, h⟩ | h
  · obtain ⟨H', h2⟩ := p0_round (by omega) h
    exact ⟨n, c, .inr ⟨ups, _, _, _, H', h1, h2⟩, Nat.le_refl _, by omega, fun _ => rfl, fun h => absurd rfl h⟩
  · obtain ⟨H', h2⟩ := p1_round (by omega) h
    exact ⟨n, c, .inr ⟨ups, _, _, _, H', h1, h2⟩, Nat.le_refl _, by omega, fun _ => rfl, fun h => absurd rfl h⟩
  · obtain ⟨hd, h2⟩ := p2_round hc h
    rw [h2]
    exact ⟨0, c + 1, .inl ⟨[], 0, rfl, next_p0 (sent_eid h.id) _ _ _ (fun g hg => ⟨c, by omega, by rw [h.gone] at hg; cases hg; rfl⟩) (.inl rfl), rfl⟩, by omega, Nat.le_refl _, fun h => by omega, fun _ => rfl⟩
theorem Phase.mid {e0 : Int} {S : CS} {n c : Nat} (hc : c + 1 ≤ 100000) (h : Phase e0 S n c) (k : Int) : ∃ n' c', Phase e0 (S.mid k) n' c' ∧ (k = 2 → Calmed e0 (S.mid k) n' c') ∧ c ≤ c' ∧ c' ≤ c + 1 ∧ (c' = c → n' = n) ∧ (c' ≠ c → n' = 0) := by
  by_cases hk : k = 2 ∨ k = 3
  · obtain ⟨n', c', h1, h2⟩ := h.midC hc hk
    exact ⟨n', c', h1.phase, fun _ => h1, h2⟩
  · unfold CS.mid
    rw [if_neg hk]
    exact ⟨n, c, h.sent, fun h => absurd (.inl h) hk, Nat.le_refl _, by omega, fun _ => rfl, fun h => absurd rfl h⟩
theorem fin_same {S : CS} (hl : S.l.map Life.sent = S.l) {k : Int} (hk : k ≠ 2) : S.fin k = S := by
  unfold CS.fin
  rw [if_neg hk, hl]
/-- the end has heard the hub -/
theorem Phase.fin {e0 : Int} {S : CS} {n c : Nat} (h : Phase e0 S n c) (k : Int) (hw : k = 2 → Calmed e0 S n c) : Phase e0 (S.fin k) n c := by
  by_cases hk : k = 2
  · have hl := h.hubSent
    unfold CS.fin
    rw [if_pos hk, hl]
    rcases hw hk with ⟨ups, t, h1, h2, h3⟩ | ⟨ups, d, t, e, H, h1, h2⟩
    · rw [h3, hubRound_nil]
      exact .inl ⟨ups, t, h1, ⟨h2.id, h2.ord, h2.gone, .inl rfl⟩⟩
    · have := p1_ack h2
      rw [h2.hub, hubRound_one h2.hq]
      exact .inr (.inl ⟨ups, _, t, e, H, h1, ⟨this.id, this.gone, rfl, this.hq, this.hep, this.ord, this.ok, this.heard, this.w8⟩⟩)
  · rw [fin_same h.hubSent hk]
    exact h
/-- a calm round -/
theorem calm_step {e0 : Int} {S : CS} {n c left : Nat} (hc : c + 1 ≤ 100000) (h : PhaseM e0 S n c left) : ∃ n' c', PhaseM e0 ((S.mid 2).fin 2) n' c' (left - 1) ∧ c ≤ c' ∧ c' ≤ c + 1 ∧ (c' = c → n' = n) ∧ (c' ≠ c → n' = 0) := by
  have hfin : ∀ (T : CS) (ups : List ByteArray) (c d t e : Nat) (H : Life), P1 e0 T ups c d t e H → P1 e0 (T.fin 2) ups c (max d e) t e H := fun T ups c d t e H h2 => by
    have hl : T.l.map Life.sent = T.l := by rw [h2.hub, List.map_cons, List.map_nil, h2.hq.sent.1]
    have := p1_ack h2
    unfold CS.fin
    rw [if_pos rfl, hl, h2.hub, hubRound_one h2.hq]
    exact ⟨this.id, this.gone, rfl, this.hq, this.hep, this.ord, this.ok, this.heard, this.w8⟩
  have hmid : S.mid 2 = CS.all { S with E := S.E.sent } S.E.round := by unfold CS.mid; rw [if_pos (.inl rfl)]
  rw [hmid]
  rcases h with ⟨ups, t, h1, h, hm⟩ | ⟨ups, d, t, e, H, h1, h, hm⟩ | ⟨h, hm⟩
  · obtain ⟨H', h2⟩ := p0_round (by omega) h
    have hw : S.E.out.wide = 8 := h.ord.wide.symm
    refine ⟨n, c, .inr (.inl ⟨ups, _, _, _, H', h1, hfin _ _ _ _ _ _ _ h2, ?_⟩), Nat.le_refl _, by omega, fun _ => rfl, fun h => absurd rfl h⟩
    unfold Ord.up
    rw [hw, h1]
    omega
  · obtain ⟨H', h2⟩ := p1_round (by omega) h
    have hd := h.ord.dt
    have ht := h.ord.tl
    refine ⟨n, c, .inr (.inl ⟨ups, _, _, _, H', h1, hfin _ _ _ _ _ _ _ h2, ?_⟩), Nat.le_refl _, by omega, fun _ => rfl, fun h => absurd rfl h⟩
    unfold Ord.up
    rw [h.w8, h1]
    omega
  · obtain ⟨hd, h2⟩ := p2_round hc h
    rw [h2]
    refine ⟨0, c + 1, .inl ⟨[], 0, rfl, next_p0 (sent_eid h.id) _ _ _ (fun g hg => ⟨c, by omega, by rw [h.gone] at hg; cases hg; rfl⟩) (.inl rfl), by omega⟩, by omega, Nat.le_refl _, fun h => by omega, fun _ => rfl⟩
/-- what is true behind enough calm rounds -/
theorem calm_end {e0 : Int} {S : CS} {n c : Nat} (h : PhaseM e0 S n c 0) : ∃ H, S.l = [H] ∧ hfind Life.node S.l 1 = some H ∧ H.epoch = S.E.epoch ∧ S.heard = n ∧ S.E.out.bodies = [] := by
  rcases h with ⟨ups, t, h1, h, hm⟩ | ⟨ups, d, t, e, H, h1, h, hm⟩ | ⟨h, hm⟩
  · omega
  · have h2 := h.ord.dt
    have h3 := h.ord.tl
    have h4 := h.ord.de
    have h5 := h.ord.et
    refine ⟨H, h.hub, by rw [h.hub]; exact hfind_one h.hq.node, by rw [h.hep, h.id.ep], by rw [h.heard]; omega, ?_⟩
    rw [h.ord.bodies]
    exact List.drop_eq_nil_of_le (by omega)
  · omega
/-- the beginning -/
theorem calm_start (e0 : Int) (h0 : 0 ≤ e0) (h1 : e0 < 4294967296) : Phase e0 ⟨Life.fresh 1 true e0, [], fun _ => none, 0⟩ 0 0 := by
  refine .inl ⟨[], 0, rfl, ⟨⟨rfl, rfl, ?_, rfl⟩, Ord.start (a := 0) (w := 8) (by decide) (by decide) (by decide) (by decide), fun g hg => (by cases hg), .inl rfl⟩⟩
  show e0 = Sr.add e0 (0 : Nat)
  unfold Sr.add
  omega
end Go.Proofs.Ytidkapanpieflaa
namespace Go.Proofs.Ytidkapanpieflaa
open Go.RowKit
set_option linter.unusedVariables false
set_option linter.unusedSimpArgs false
def CS.acted (S : CS) (k : Int) : CS := if k = 0 then S.push else if k = 7 then S.crash else if k = 8 then S.drop else S
def upTo (S : CS) (k : Int) (n : Nat) : Nat := if k = 0 ∧ S.E.out.full = true then n + 1 else n
def CS.whole (S : CS) (k : Int) : CS := ((S.acted k).mid k).fin k
/-- before round i: m0 rounds of steps, then calm ones -/
def InvC (e0 : Int) (m0 i : Nat) (S : CS) (n c : Nat) : Prop := (i ≤ m0 ∧ Phase e0 S n c ∧ n ≤ i) ∨ (m0 < i ∧ PhaseM e0 S n c (20 - (i - m0)))
theorem InvC.phase {e0 : Int} {m0 i : Nat} {S : CS} {n c : Nat} (h : InvC e0 m0 i S n c) : Phase e0 S n c := by
  rcases h with ⟨_, h, _⟩ | ⟨_, h⟩
  · exact h
  · exact h.phase
theorem acted_phase {e0 : Int} {S : CS} {n c : Nat} (h : Phase e0 S n c) (hn : n < 900) (k : Int) : ∃ n' c', Phase e0 (S.acted k) n' c' ∧ c ≤ c' ∧ c' ≤ c + 1 ∧ (c' = c → n' = upTo S k n) ∧ (c' ≠ c → n' = 0) := by
  unfold CS.acted upTo
  by_cases h0 : k = 0
  · rw [if_pos h0]
    refine ⟨_, c, h.push hn, Nat.le_refl _, by omega, fun _ => ?_, fun h => absurd rfl h⟩
    by_cases hf : S.E.out.full = true
    · rw [if_pos hf, if_pos ⟨h0, hf⟩]
    · rw [if_neg hf, if_neg fun h => hf h.2]
  · rw [if_neg h0, if_neg (show ¬ (k = 0 ∧ S.E.out.full = true) from fun h => h0 h.1)]
    by_cases h7 : k = 7
    · rw [if_pos h7]
      exact ⟨0, c + 1, h.crash, by omega, Nat.le_refl _, fun h => by omega, fun _ => rfl⟩
    · rw [if_neg h7]
      by_cases h8 : k = 8
      · rw [if_pos h8]
        exact ⟨n, c, h.drop, Nat.le_refl _, by omega, fun _ => rfl, fun h => absurd rfl h⟩
      · rw [if_neg h8]
        exact ⟨n, c, h, Nat.le_refl _, by omega, fun _ => rfl, fun h => absurd rfl h⟩
theorem upTo_le (S : CS) (k : Int) (n : Nat) : upTo S k n ≤ n + 1 := by unfold upTo; split <;> omega
/-- one round -/
theorem round_law {e0 : Int} {m0 i : Nat} {S : CS} {n c : Nat} (h : InvC e0 m0 i S n c) (hm : m0 ≤ 30) (hi : i < m0 + 20) (hc : c ≤ 1000) {k : Int} (hk : m0 ≤ i → k = 2) :
    ∃ n' c', InvC e0 m0 (i + 1) (S.whole k) n' c' ∧ c ≤ c' ∧ c' ≤ c + 2 ∧ (c' = c → n' = upTo S k n) ∧ (c' ≠ c → n' = 0) := by
  have calm : ∀ left, PhaseM e0 S n c left → k = 2 → ∃ n' c', PhaseM e0 (S.whole k) n' c' (left - 1) ∧ c ≤ c' ∧ c' ≤ c + 2 ∧ (c' = c → n' = upTo S k n) ∧ (c' ≠ c → n' = 0) := fun left hp hk2 => by
    subst hk2
    obtain ⟨n', c', h1, h2, h3, h4, h5⟩ := calm_step (by omega) hp
    refine ⟨n', c', h1, h2, by omega, fun h => ?_, h5⟩
    rw [h4 h]
    rfl
  rcases h with ⟨h1, h2, h3⟩ | ⟨h1, h2⟩
  · by_cases hlt : i < m0
    · obtain ⟨n1, c1, a1, a2, a3, a4, a5⟩ := acted_phase h2 (by omega) k
      obtain ⟨n2, c2, b1, b2, b3, b4, b5, b6⟩ := a1.mid (by omega) k
      have hf := b1.fin k b2
      have hu := upTo_le S k n
      refine ⟨n2, c2, .inl ⟨by omega, hf, ?_⟩, by omega, by omega, fun h => ?_, fun h => ?_⟩
      · by_cases e2 : c2 = c1
        · rw [b5 e2]
          by_cases e1 : c1 = c
          · rw [a4 e1]; omega
          · rw [a5 e1]; omega
        · rw [b6 e2]; omega
      · have e1 : c1 = c := by omega
        have e2 : c2 = c1 := by omega
        rw [b5 e2, a4 e1]
      · by_cases e2 : c2 = c1
        · rw [b5 e2, a5 (by omega)]
        · exact b6 e2
    · obtain ⟨n', c', q1, q2⟩ := calm 20 (h2.measure (by omega)) (hk (by omega))
      exact ⟨n', c', .inr ⟨by omega, by rw [show 20 - (i + 1 - m0) = 20 - 1 by omega]; exact q1⟩, q2⟩
  · obtain ⟨n', c', q1, q2⟩ := calm _ h2 (hk (by omega))
    exact ⟨n', c', .inr ⟨by omega, by rw [show 20 - (i + 1 - m0) = 20 - (i - m0) - 1 by omega]; exact q1⟩, q2⟩
theorem round_end {e0 : Int} {m0 : Nat} {S : CS} {n c : Nat} (h : InvC e0 m0 (m0 + 20) S n c) : ∃ H, S.l = [H] ∧ hfind Life.node S.l 1 = some H ∧ H.epoch = S.E.epoch ∧ S.heard = n ∧ S.E.out.bodies = [] := by
  rcases h with ⟨h1, _, _⟩ | ⟨_, h⟩
  · omega
  · rw [show 20 - (m0 + 20 - m0) = 0 by omega] at h
    exact calm_end h
theorem InvC.epoch {e0 : Int} {m0 i j : Nat} {S T : CS} {n n' c c' : Nat} (h : InvC e0 m0 i S n c) (h' : InvC e0 m0 j T n' c') (hc : c ≤ 1000) (hc' : c' ≤ 1000) : (T.E.epoch = S.E.epoch ↔ c' = c) := by
  rw [h.phase.id.ep, h'.phase.id.ep]
  exact ⟨fun e => epc_inj e0 (by omega) (by omega) e, fun e => by rw [e]⟩
structure CalmM (w wr : World) (p q : Nat) (c : Nat → Nat) (S : CS) : Prop where
  col : Col w wr c
  e : EndAt wr p (fun k => c k = 1) S.E
  h : HubAt wr (fun k => c k = 2) q S.l S.G
section
variable {w wr w' : World} {p q : Nat} {c : Nat → Nat} {S S' : CS}
theorem CalmM.still (h : CalmM w wr p q c S) (hm : Mod (fun _ => False) wr w') (i : Nat) : CalmM w w' p q (paint c wr w' i) S :=
  ⟨h.col.still hm i, (h.e.keep hm fun _ _ f => f).mono (paint_away h.col (by decide) i), (h.h.keep hm fun _ _ f => f).mono (paint_away h.col (by decide) i)⟩
theorem CalmM.eM (h : CalmM w wr p q c S) {E' : Life} (he : EndAt w' p (fun k => c k = 1 ∨ wr.heap.size ≤ k) E') (hm : Mod (fun k => c k = 1) wr w') : CalmM w w' p q (paint c wr w' 1) { S with E := E' } :=
  ⟨h.col.step hm (by decide) 1, he.mono (paint_mine h.col (by decide)), (h.h.keep hm (mod_away (by decide))).mono (paint_away h.col (by decide) 1)⟩
theorem CalmM.hM (h : CalmM w wr p q c S) {l' : List Life} {G' : Int → Option Int} (hx : HubAt w' (fun k => c k = 2 ∨ wr.heap.size ≤ k) q l' G') (hm : Mod (fun k => c k = 2) wr w') : CalmM w w' p q (paint c wr w' 2) { S with l := l', G := G' } :=
  ⟨h.col.step hm (by decide) 2, (h.e.keep hm (mod_away (by decide))).mono (paint_away h.col (by decide) 2), hx.mono (paint_mine h.col (by decide))⟩
theorem CalmM.to (h : CalmM w wr p q c S) (h1 : S.E = S'.E) (h2 : S.l = S'.l) (h3 : S.G = S'.G) : CalmM w wr p q c S' := ⟨h.col, h1 ▸ h.e, h2 ▸ h3 ▸ h.h⟩
theorem CalmM.drew (h : CalmM w wr p q c S) : CalmM w wr.drew p q c S := ⟨h.col.drew, h.e.drew, h.h.keep (Mod.refl (fun _ => False) _).drew fun _ _ f => f⟩
/-- a block of another colour is kept -/
theorem Blk.other {g : Nat} {t : TypeId} {cs : List Value} {i j : Nat} (h : Blk wr g t cs) (hg : c g = i) (hm : Mod (fun k => c k = j) wr w') (hij : i ≠ j) : Blk w' g t cs := h.keep hm (fun e => hij (hg.symm.trans e))
end
/-- the steps that the caller hands in -/
def StepRow (w : World) (v : Value) (n : Nat) (l : Nat → Int × Int) : Prop :=
  ∃ ad cap, v = .slice ad n cap ∧ n ≤ cap ∧ cap ≤ maxLen ∧ (0 < n → ∃ g o, ad = some ⟨g, o, none⟩ ∧ g < w.heap.size ∧ ∀ i, i < n → w.cell? ⟨g, o + i * 2, none⟩ = some (.int .i64 (l i).1) ∧ w.cell? ⟨g, o + i * 2 + 1, none⟩ = some (.int .i64 (l i).2))
end Go.Proofs.Ytidkapanpieflaa
