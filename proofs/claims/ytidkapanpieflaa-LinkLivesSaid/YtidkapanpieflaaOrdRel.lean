/- What is told is what there was, in order: the plain laws of a sender and a receiver over a net that loses, doubles, and turns round. -/
import Derived.Test.YtidkapanpieflaaRcvTake
import Derived.Test.YtidkapanpieflaaSnd2
namespace Go.Proofs.Ytidkapanpieflaa
set_option linter.unusedVariables false
set_option linter.unusedSimpArgs false
/-- the packet of a place -/
def pk (a : Int) (l : List ByteArray) (i : Nat) : Pkt := ⟨Sr.add a i, l.getD i ByteArray.empty⟩
theorem pk_inj {a : Int} {i j : Nat} (hi : i < 1000000) (hj : j < 1000000) (h : Sr.add a i = Sr.add a j) : i = j := by
  unfold Sr.add at h
  omega
theorem pk_app {a : Int} {l : List ByteArray} {b : ByteArray} {i : Nat} (h : i < l.length) : pk a (l ++ [b]) i = pk a l i := by
  unfold pk
  congr 1
  simp [List.getD, List.getElem?_append_left h]
/-- s: the sender, r: the receiver; l: all that was pushed; d: how many are acknowledged, t: sent, e: told -/
structure Ord (a : Int) (s : Snd) (r : Rcv) (l : List ByteArray) (d t e : Nat) : Prop where
  a0 : 0 ≤ a
  a1 : a < 4294967296
  n : l.length ≤ 1000
  base : s.base = Sr.add a d
  bodies : s.bodies = l.drop d
  sent : s.sent = t - d
  dt : d ≤ t
  tl : t ≤ l.length
  tw : t ≤ d + s.wide
  next : r.next = Sr.add a e
  wide : r.wide = s.wide
  w0 : 1 ≤ s.wide
  w1 : s.wide ≤ 64
  de : d ≤ e
  et : e ≤ t
  held : ∀ p ∈ r.held, ∃ i, e ≤ i ∧ i < t ∧ p = pk a l i
  dry : Pkt.find r.held r.next = none
theorem Ord.start {a : Int} (h0 : 0 ≤ a) (h1 : a < 4294967296) {w : Nat} (hw0 : 1 ≤ w) (hw1 : w ≤ 64) : Ord a ⟨a, [], 0, w⟩ ⟨a, w, []⟩ [] 0 0 0 := by
  have e : Sr.add a (0 : Nat) = a := by unfold Sr.add; omega
  exact ⟨h0, h1, by simp, e.symm, rfl, rfl, Nat.le_refl _, by simp, by simp, e.symm, rfl, hw0, hw1, Nat.le_refl _, Nat.le_refl _, fun p hp => (by cases hp), rfl⟩
theorem Ord.push {a : Int} {s : Snd} {r : Rcv} {l : List ByteArray} {d t e : Nat} (h : Ord a s r l d t e) (b : ByteArray) (hn : l.length < 1000) : s.full = true ∧ Ord a (s.push b) r (l ++ [b]) d t e := by
  have hl : s.bodies.length ≤ l.length := by rw [h.bodies]; simp
  have hd := h.dt
  have ht := h.tl
  refine ⟨by unfold Snd.full; exact decide_eq_true (by omega), ?_⟩
  have e1 : s.push b = { s with bodies := s.bodies ++ [b] } := by unfold Snd.push; rw [if_pos (by omega)]
  rw [e1]
  refine ⟨h.a0, h.a1, by simp; omega, h.base, ?_, h.sent, h.dt, by simp; omega, h.tw, h.next, h.wide, h.w0, h.w1, h.de, h.et, fun p hp => ?_, h.dry⟩
  · show s.bodies ++ [b] = _
    rw [h.bodies, List.drop_append_of_le_length (by omega)]
  · obtain ⟨i, h1, h2, h3⟩ := h.held p hp
    exact ⟨i, h1, h2, by rw [h3, pk_app (by omega)]⟩
theorem Ord.pkts {a : Int} {s : Snd} {r : Rcv} {l : List ByteArray} {d t e : Nat} (h : Ord a s r l d t e) (x n : Nat) : s.pkts x n = (List.range n).map fun j => pk a l (d + x + j) := by
  unfold Snd.pkts
  apply List.map_congr_left
  intro j _
  unfold pk
  rw [h.base]
  congr 1
  · unfold Sr.add; omega
  · unfold Snd.at_
    rw [h.bodies]
    simp [List.getD, Nat.add_assoc]
/-- how many are sent, when all are sent that may be -/
def Ord.up (s : Snd) (l : List ByteArray) (d : Nat) : Nat := d + min (l.length - d) s.wide
theorem Ord.send {a : Int} {s : Snd} {r : Rcv} {l : List ByteArray} {d t e : Nat} (h : Ord a s r l d t e) : t ≤ Ord.up s l d ∧ Ord a s.send r l d (Ord.up s l d) e ∧ s.news = (List.range (Ord.up s l d - t)).map fun j => pk a l (t + j) := by
  have hd := h.dt
  have ht := h.tl
  have hw := h.tw
  have he := h.et
  have hs := h.sent
  have hle : t ≤ Ord.up s l d := by unfold Ord.up; omega
  have hb : s.bodies.length = l.length - d := by rw [h.bodies]; simp
  refine ⟨hle, ⟨h.a0, h.a1, h.n, h.base, h.bodies, ?_, by omega, by unfold Ord.up; omega, ?_, h.next, h.wide, h.w0, h.w1, h.de, by omega, fun p hp => ?_, h.dry⟩, ?_⟩
  · show min s.bodies.length s.wide = _
    rw [hb]; unfold Ord.up; omega
  · show Ord.up s l d ≤ d + s.wide
    unfold Ord.up; omega
  · obtain ⟨i, h1, h2, h3⟩ := h.held p hp
    exact ⟨i, h1, by omega, h3⟩
  · unfold Snd.news
    rw [h.pkts, hs, hb]
    have e1 : min (l.length - d) s.wide - (t - d) = Ord.up s l d - t := by unfold Ord.up; omega
    rw [e1]
    apply List.map_congr_left
    intro j _
    congr 1
    omega
theorem Ord.again {a : Int} {s : Snd} {r : Rcv} {l : List ByteArray} {d t e : Nat} (h : Ord a s r l d t e) : s.again = (List.range (t - d)).map fun j => pk a l (d + j) := by
  unfold Snd.again
  rw [h.pkts, h.sent]
  rfl
theorem Pkt.del_keep {l : List Pkt} {k : Int} {p : Pkt} (h : p ∈ l) (hk : ¬ p.seq = k) : p ∈ Pkt.del l k := by
  induction l with
  | nil => cases h
  | cons q r ih =>
    unfold Pkt.del
    rcases List.mem_cons.1 h with rfl | h
    · rw [if_neg hk]; simp
    · split
      · exact h
      · exact List.mem_cons_of_mem _ (ih h)
/-- what a receiver tells when it holds what it waits for -/
theorem drain_ord {a : Int} {l : List ByteArray} {t : Nat} (ht : t ≤ l.length) (hn : l.length ≤ 1000) : ∀ (n : Nat) (r : Rcv) (e : Nat), r.held.length = n → e ≤ t → r.next = Sr.add a e → (r.held.map (·.seq)).Nodup → (∀ p ∈ r.held, ∃ i, e ≤ i ∧ i < t ∧ p = pk a l i) →
    ∃ k, e + k ≤ t ∧ (r.drain n).1 = (l.drop e).take k ∧ (r.drain n).2.next = Sr.add a ((e + k : Nat) : Int) ∧ (r.drain n).2.wide = r.wide ∧ Pkt.find (r.drain n).2.held (r.drain n).2.next = none ∧
      (∀ p ∈ (r.drain n).2.held, ∃ i, e + k ≤ i ∧ i < t ∧ p = pk a l i) ∧ (∀ p ∈ r.held, p ∈ (r.drain n).2.held ∨ ∃ i, i < e + k ∧ p = pk a l i)
  | n, r, e, hl, he, hx, hnd, hh => by
    cases hf : Pkt.find r.held r.next with
    | none =>
      have : r.drain n = ([], r) := hl ▸ Rcv.drain_none hf
      rw [this]
      exact ⟨0, by omega, by simp, hx, rfl, hf, hh, fun p hp => .inl hp⟩
    | some x =>
      obtain ⟨hm, hs⟩ := Pkt.find_some hf
      obtain ⟨i, h1, h2, h3⟩ := hh x hm
      have hi : i = e := by
        refine pk_inj (a := a) (by omega) (by omega) ?_
        rw [← hx, ← hs, h3]
        rfl
      subst hi
      have hlen := Pkt.del_len hf
      have hsub := Pkt.del_sub r.held r.next
      obtain ⟨k, g1, g2, g3, g4, g5, g6, g7⟩ := drain_ord (a := a) ht hn (Pkt.del r.held r.next).length { r with next := Sr.add r.next 1, held := Pkt.del r.held r.next } (i + 1) rfl (by omega) (by show Sr.add r.next 1 = _; rw [hx]; unfold Sr.add; omega) (hnd.sublist (hsub.map _)) (fun p hp => by
        obtain ⟨j, q1, q2, q3⟩ := hh p (hsub.subset hp)
        have hne := Pkt.del_not _ _ hnd p hp
        refine ⟨j, ?_, q2, q3⟩
        rcases Nat.lt_or_ge i j with h | h
        · exact h
        · obtain rfl : j = i := by omega
          exact absurd (by rw [q3, hx]; rfl) hne)
      have hd := Rcv.drain_some hf
      rw [hl] at hd
      rw [hd]
      have e1 : i + 1 + k = i + (k + 1) := by omega
      rw [e1] at g3 g6 g7
      refine ⟨k + 1, by omega, ?_, g3, g4, g5, g6, fun p hp => ?_⟩
      · show x.body :: _ = _
        rw [g2, h3]
        have : i < l.length := by omega
        rw [List.drop_eq_getElem_cons this, List.take_succ_cons]
        congr 1
        simp [pk, List.getD, this]
      · by_cases hps : p.seq = r.next
        · refine .inr ?_
          obtain ⟨j, q1, q2, q3⟩ := hh p hp
          have : j = i := pk_inj (a := a) (by omega) (by omega) (by rw [← hx, ← hps, q3]; rfl)
          exact ⟨j, by omega, q3⟩
        · refine g7 p ?_
          exact Pkt.del_keep hp hps
termination_by n => n
decreasing_by omega
/-- a packet that was sent is taken -/
theorem Ord.take {a : Int} {s : Snd} {r : Rcv} {l : List ByteArray} {d t e : Nat} (h : Ord a s r l d t e) (hok : r.Ok) {i : Nat} (hi : i < t) :
    ∃ k, (r.take (pk a l i)).1 = (l.drop e).take k ∧ Ord a s (r.take (pk a l i)).2 l d t (e + k) ∧ (∀ p ∈ r.held, p ∈ (r.take (pk a l i)).2.held ∨ ∃ j, j < e + k ∧ p = pk a l j) ∧ (pk a l i ∈ (r.take (pk a l i)).2.held ∨ i < e + k) := by
  have hd := h.dt
  have ht := h.tl
  have hw := h.tw
  have he := h.et
  have hde := h.de
  have hn := h.n
  have hw0 := h.w0
  have hw1 := h.w1
  have hww := h.wide
  by_cases hie : i < e
  · have hno : Sr.within (pk a l i).seq r.next r.wide = false := by
      rw [h.next, hww]
      show Sr.within (Sr.add a i) _ _ = false
      unfold Sr.within Sr.add
      apply decide_eq_false
      split <;> (try split) <;> omega
    have : r.take (pk a l i) = ([], r) := by unfold Rcv.take; rw [hno]; rfl
    rw [this]
    exact ⟨0, by simp, h, fun p hp => .inl hp, .inr (by omega)⟩
  · have hyes : Sr.within (pk a l i).seq r.next r.wide = true := by
      rw [h.next, hww]
      show Sr.within (Sr.add a i) _ _ = true
      unfold Sr.within Sr.add
      apply decide_eq_true
      split <;> (try split) <;> omega
    have hok' := hok.put (Sr.add_bd a i).1 (Sr.add_bd a i).2 hyes
    have hnx : (r.put (pk a l i)).next = Sr.add a e := by unfold Rcv.put; split <;> exact h.next
    have hwd : (r.put (pk a l i)).wide = r.wide := by unfold Rcv.put; split <;> rfl
    have hsub : ∀ p ∈ r.held, p ∈ (r.put (pk a l i)).held := fun p hp => by unfold Rcv.put; split <;> simp [hp]
    have hmem : pk a l i ∈ (r.put (pk a l i)).held := by
      unfold Rcv.put
      split
      · rename_i hf
        obtain ⟨x, hx⟩ := Option.isSome_iff_exists.1 hf
        obtain ⟨q1, q2⟩ := Pkt.find_some hx
        obtain ⟨j, q3, q4, q5⟩ := h.held x q1
        have : j = i := pk_inj (a := a) (by omega) (by omega) (by
          have : (pk a l j).seq = (pk a l i).seq := by rw [← q5]; exact q2
          exact this)
        subst this
        rw [← q5]; exact q1
      · simp
    have hh : ∀ p ∈ (r.put (pk a l i)).held, ∃ j, e ≤ j ∧ j < t ∧ p = pk a l j := fun p hp => by
      unfold Rcv.put at hp
      split at hp
      · exact h.held p hp
      · rcases List.mem_append.1 hp with hp | hp
        · exact h.held p hp
        · exact ⟨i, by omega, hi, by simpa using hp⟩
    obtain ⟨k, g1, g2, g3, g4, g5, g6, g7⟩ := drain_ord ht hn _ (r.put (pk a l i)) e rfl he hnx hok'.nd hh
    have e1 : r.take (pk a l i) = (r.put (pk a l i)).drain (r.put (pk a l i)).held.length := by unfold Rcv.take; rw [if_pos hyes]
    rw [e1]
    refine ⟨k, g2, ⟨h.a0, h.a1, h.n, h.base, h.bodies, h.sent, h.dt, h.tl, h.tw, g3, by rw [g4, hwd, hww], h.w0, h.w1, by omega, g1, g6, g5⟩, fun p hp => g7 p (hsub p hp), ?_⟩
    rcases g7 _ hmem with q | ⟨j, q1, q2⟩
    · exact .inl q
    · have : i = j := pk_inj (a := a) (by omega) (by omega) (show (pk a l i).seq = (pk a l j).seq by rw [← q2])
      exact .inr (by omega)
/-- an acknowledgement, late or not -/
theorem Ord.ack {a : Int} {s : Snd} {r : Rcv} {l : List ByteArray} {d t e : Nat} (h : Ord a s r l d t e) {i : Nat} (hi : i ≤ e) : ∃ d', Ord a (s.ack (Sr.add a i)) r l d' t e ∧ d' = max d i := by
  have hd := h.dt
  have ht := h.tl
  have hw := h.tw
  have he := h.et
  have hde := h.de
  have hn := h.n
  have hw1 := h.w1
  have hs := h.sent
  have b0 := h.a0
  have b1 := h.a1
  have hg : s.acked (Sr.add a i) = i - d := by
    unfold Snd.acked
    rw [h.base, hs]
    unfold Sr.gap Sr.add
    split <;> (try split) <;> omega
  refine ⟨max d i, ?_, rfl⟩
  unfold Snd.ack
  rw [hg]
  by_cases hz : i - d = 0
  · rw [if_pos hz, show max d i = d by omega]
    exact h
  · rw [if_neg hz, show max d i = i by omega]
    refine ⟨h.a0, h.a1, h.n, rfl, ?_, ?_, by omega, h.tl, ?_, h.next, h.wide, h.w0, h.w1, hi, h.et, h.held, h.dry⟩
    · show s.bodies.drop _ = _
      rw [h.bodies, List.drop_drop]
      congr 1
      omega
    · show s.sent - (i - d) = _
      omega
    · show t ≤ i + s.wide
      omega
/-- all that was sent is held, or told: then it is told -/
theorem Ord.all {a : Int} {s : Snd} {r : Rcv} {l : List ByteArray} {d t e : Nat} (h : Ord a s r l d t e) (hall : ∀ i, d ≤ i → i < t → pk a l i ∈ r.held ∨ i < e) : e = t := by
  have he := h.et
  have hde := h.de
  rcases Nat.lt_or_ge e t with hlt | hge
  · rcases hall e hde hlt with hm | hm
    · have := Pkt.find_none h.dry _ hm
      exact absurd h.next.symm (by simpa [pk] using this)
    · omega
  · omega
end Go.Proofs.Ytidkapanpieflaa
