/- LinkCalm: what the walk needs besides: messages are well formed, how much is told at once. -/
import Derived.Test.YtidkapanpieflaaCalmR
namespace Go.Proofs.Ytidkapanpieflaa
open Go.RowKit
set_option linter.unusedVariables false
set_option linter.unusedSimpArgs false
theorem EndAt.life {w : World} {q : Nat} {f : Nat → Prop} {L : Life} (h : EndAt w q f L) : L.out.Ok ∧ L.inn.Ok ∧ (0 ≤ L.epoch ∧ L.epoch < 4294967296) := by
  obtain ⟨p, po, pi, fl, fs, fr, h1, hq, hp, hpf, hpq, hbq, hbp, hl, hs, hr, he, h4, h6, h7⟩ := h.parts
  exact ⟨hs.1, hr.1, he⟩
theorem HubAt.ok {w : World} {q : Nat} {f : Nat → Prop} {l : List Life} {G : Int → Option Int} (h : HubAt w f q l G) : ∀ L ∈ l, L.out.Ok ∧ L.inn.Ok ∧ (0 ≤ L.epoch ∧ L.epoch < 4294967296) ∧ (-9223372036854775808 ≤ L.node ∧ L.node < 9223372036854775808) := fun L hL => by
  obtain ⟨km, gm, vbo, c, h1, _⟩ := h
  obtain ⟨he, _, po, pi, fs, fr, _, hs, hr, _, _⟩ := h1.fam L hL
  exact ⟨hs.1, hr.1, he, h1.rg L hL⟩
theorem pkts_ok {s : Snd} {a n : Nat} : ∀ p ∈ s.pkts a n, 0 ≤ p.seq ∧ p.seq < 4294967296 := fun p hp => by
  obtain ⟨j, _, rfl⟩ := List.mem_map.1 hp
  exact Sr.add_bd _ _
theorem round_ok {E : Life} (h1 : E.inn.Ok) (h2 : 0 ≤ E.epoch ∧ E.epoch < 4294967296) (h3 : -9223372036854775808 ≤ E.node ∧ E.node < 9223372036854775808) : ∀ m ∈ E.round, m.Ok := fun m hm => by
  have n1 : E.node ≤ 9223372036854775807 := by omega
  unfold Life.round at hm
  rcases List.mem_append.1 hm with hm | hm
  · obtain ⟨p, hp, rfl⟩ := List.mem_map.1 hm
    obtain ⟨a, b⟩ := pkts_ok p hp
    exact ⟨h1.n0, h1.n1, a, b, h2.1, h2.2, h3.1, n1, by show (-9223372036854775808 : Int) ≤ 2; decide, by show (2 : Int) ≤ 9223372036854775807; decide⟩
  · rw [Life.beat_eq] at hm
    rcases List.mem_cons.1 hm with rfl | hm
    · exact ⟨h1.n0, h1.n1, Int.le_refl 0, (by show (0 : Int) < 4294967296; decide), h2.1, h2.2, h3.1, n1, by show (-9223372036854775808 : Int) ≤ 1; decide, by show (1 : Int) ≤ 9223372036854775807; decide⟩
    · obtain ⟨p, hp, rfl⟩ := List.mem_map.1 hm
      obtain ⟨a, b⟩ := pkts_ok p hp
      exact ⟨h1.n0, h1.n1, a, b, h2.1, h2.2, h3.1, n1, by show (-9223372036854775808 : Int) ≤ 2; decide, by show (2 : Int) ≤ 9223372036854775807; decide⟩
theorem round_len {E : Life} (h : E.out.Ok) : E.round.length ≤ 200 := by
  have h1 := h.s2
  have h2 := h.w1
  have h3 := h.s1
  unfold Life.round Life.sends Life.sent
  rw [Life.beat_eq]
  simp [Life.agains, Snd.news, Snd.again, Snd.send, Snd.pkts]
  omega
theorem drain_len : ∀ (n : Nat) (r : Rcv), (r.drain n).1.length ≤ n
  | 0, r => Nat.le_refl _
  | n + 1, r => by
    unfold Rcv.drain
    split
    · simp
    · have := drain_len n { r with next := Sr.add r.next 1, held := Pkt.del r.held r.next }
      simp; omega
theorem take_len {r : Rcv} (h : r.Ok) (p : Pkt) : (r.take p).1.length ≤ 65 := by
  have h1 := h.len
  unfold Rcv.take
  split
  · refine Nat.le_trans (drain_len _ _) ?_
    unfold Rcv.put
    split
    · omega
    · simp; omega
  · simp
theorem hear_len {L : Life} (h : L.inn.Ok) (m : MsgV) : (L.hear m).1.length ≤ 65 := by
  unfold Life.hear
  split
  · exact take_len h _
  · simp
theorem fresh_ok (n : Int) (up : Bool) (ep : Int) : (Life.fresh n up ep).inn.Ok := ⟨Int.le_refl 0, (show (0 : Int) < 4294967296 by decide), (show 1 ≤ 8 by decide), (show 8 ≤ 64 by decide), List.nodup_nil, fun p hp => (by cases hp)⟩
theorem hubHear_len {l : List Life} {G : Int → Option Int} {m : MsgV} (h : ∀ L ∈ l, L.inn.Ok) : (hubHear l G m).2.1.length ≤ 65 ∧ (hubHear l G m).2.2.1.length ≤ 1 ∧ (m.Ok → ∀ o ∈ (hubHear l G m).2.2.1, o.Ok) := by
  have hn : (hubNew l m).2.1.length ≤ 65 ∧ (hubNew l m).2.2.1.length ≤ 1 ∧ (m.Ok → ∀ o ∈ (hubNew l m).2.2.1, o.Ok) := ⟨hear_len (fresh_ok _ _ _) m, Nat.zero_le _, fun _ o ho => (by cases ho)⟩
  unfold hubHear
  split
  · exact ⟨Nat.zero_le _, Nat.zero_le _, fun _ o ho => (by cases ho)⟩
  · split
    · refine ⟨Nat.zero_le _, Nat.le_refl _, fun hm o ho => ?_⟩
      obtain rfl := List.mem_singleton.1 ho
      exact ⟨Int.le_refl 0, (by show (0 : Int) < 4294967296; decide), Int.le_refl 0, (by show (0 : Int) < 4294967296; decide), hm.e0, hm.e1, hm.n0, hm.n1, by show (-9223372036854775808 : Int) ≤ 3; decide, by show (3 : Int) ≤ 9223372036854775807; decide⟩
    · split
      · exact hn
      · rename_i L hL
        split
        · exact hn
        · split
          · exact ⟨Nat.zero_le _, Nat.zero_le _, fun _ o ho => (by cases ho)⟩
          · exact ⟨hear_len (h L (hfind_mem hL).1) m, Nat.zero_le _, fun _ o ho => (by cases ho)⟩
theorem CS.all_snoc (S : CS) (ms : List MsgV) (m : MsgV) : CS.all S (ms ++ [m]) = (CS.all S ms).hear m := by unfold CS.all; rw [List.foldl_append]; rfl
theorem hearAll_snoc (E : Life) (ms : List MsgV) (m : MsgV) : E.hearAll (ms ++ [m]) = ((E.hearAll ms).ehear m).2.2 := by unfold Life.hearAll; rw [List.foldl_append]; rfl
theorem hubRound_ok {l : List Life} (h : ∀ L ∈ l, L.inn.Ok ∧ (0 ≤ L.epoch ∧ L.epoch < 4294967296) ∧ (-9223372036854775808 ≤ L.node ∧ L.node < 9223372036854775808)) : ∀ m ∈ hubRound l, m.Ok := fun m hm => by
  have key : ∀ L ∈ l, ∀ x ∈ L.round, x.Ok := fun L hL => round_ok (h L hL).1 (h L hL).2.1 (h L hL).2.2
  unfold hubRound beats at hm
  rcases List.mem_append.1 hm with hm | hm
  · obtain ⟨L, hL, hx⟩ := List.mem_flatMap.1 hm
    exact key L hL m (List.mem_append.2 (.inl hx))
  · rcases List.mem_append.1 hm with hm | hm
    · obtain ⟨L', hL', rfl⟩ := List.mem_map.1 hm
      obtain ⟨L, hL, rfl⟩ := List.mem_map.1 hL'
      exact key L hL _ (List.mem_append.2 (.inr (by rw [Life.beat_eq]; exact List.mem_cons_self)))
    · obtain ⟨L', hL', hx⟩ := List.mem_flatMap.1 hm
      obtain ⟨L, hL, rfl⟩ := List.mem_map.1 hL'
      exact key L hL m (List.mem_append.2 (.inr (by rw [Life.beat_eq]; exact List.mem_cons_of_mem _ hx)))
theorem CalmM.eS {w wr w' : World} {p q : Nat} {c : Nat → Nat} {S : CS} (h : CalmM w wr p q c S) {E' : Life} (he : EndAt w' p (fun k => c k = 1) E') (hm : Mod (fun k => c k = 1) wr w') (i : Nat) : CalmM w w' p q (paint c wr w' i) { S with E := E' } :=
  ⟨h.col.step hm (by decide) i, he.mono (paint_away h.col (by decide) i), (h.h.keep hm (mod_away (by decide))).mono (paint_away h.col (by decide) i)⟩
theorem CalmM.row {w wr w' : World} {p q : Nat} {c : Nat → Nat} {S : CS} (h : CalmM w wr p q c S) {j : Nat} (hj : j ≠ 0) (h1 : 1 ≠ j) (h2 : 2 ≠ j) (hm : Mod (fun k => c k = j) wr w') (i : Nat) : CalmM w w' p q (paint c wr w' i) S :=
  ⟨h.col.step hm hj i, (h.e.keep hm (mod_away h1)).mono (paint_away h.col (by decide) i), (h.h.keep hm (mod_away h2)).mono (paint_away h.col (by decide) i)⟩
theorem hubS_phase {e0 : Int} {S : CS} {n c : Nat} (h : Phase e0 S n c) : S.l.length ≤ 1 := by
  rcases h with ⟨_, _, _, h⟩ | ⟨_, _, _, _, _, _, h⟩ | h
  · rcases h.hub with h | ⟨H, h, _⟩ <;> rw [h] <;> simp
  · rw [h.hub]; simp
  · rw [h.hub]; simp
theorem hubRound_len {l : List Life} (hl : l.length ≤ 1) (h : ∀ L ∈ l, L.out.Ok) : (l.flatMap Life.sends).length ≤ 200 ∧ (beats (l.map Life.sent)).length ≤ 200 := by
  match l, hl, h with
  | [], _, _ => exact ⟨Nat.zero_le _, Nat.zero_le _⟩
  | [L], _, h =>
    have h1 := round_len (h L List.mem_cons_self)
    have h2 : (beats [L.sent]).length = L.sent.beat.length := by unfold beats; rw [Life.beat_eq]; simp [Nat.add_comm]
    unfold Life.round at h1
    rw [List.length_append] at h1
    rw [List.map_cons, List.map_nil, h2, List.flatMap_cons, List.flatMap_nil, List.append_nil]
    omega
/-- a message of a row -/
theorem msg_get : ∀ (ms : List MsgV) (t : Nat) (m : MsgV), ms[t]? = some m → ∀ j, j < 7 → (MsgV.vals ms)[t * 7 + j]? = m.cells[j]?
  | [], t, m, h, _, _ => by simp at h
  | x :: ms, 0, m, h, j, hj => by
    simp at h
    subst h
    have : MsgV.vals (x :: ms) = x.cells.toList ++ MsgV.vals ms := by simp [MsgV.vals]
    rw [this, List.getElem?_append_left (by simp [MsgV.cells]; omega)]
    simp
  | x :: ms, t + 1, m, h, j, hj => by
    have : MsgV.vals (x :: ms) = x.cells.toList ++ MsgV.vals ms := by simp [MsgV.vals]
    have hl : x.cells.toList.length = 7 := rfl
    rw [this, List.getElem?_append_right (by rw [hl]; omega), hl, show (t + 1) * 7 + j - 7 = t * 7 + j by omega]
    exact msg_get ms t m (by simpa using h) j hj
theorem Row.msg {w : World} {f : Nat → Prop} {a : Option Addr} {n cp : Nat} {ms : List MsgV} (h : Row w f 65 7 (.slice a n cp) n (MsgV.vals ms)) (hn : n = ms.length) {t : Nat} {m : MsgV} (hm : ms[t]? = some m) :
    ∃ g, a = some ⟨g, 0, none⟩ ∧ w.cell? ⟨g, t * 7, none⟩ = some (.int .i64 m.node) ∧ w.cell? ⟨g, t * 7 + 1, none⟩ = some (.bool m.up) ∧ w.cell? ⟨g, t * 7 + 2, none⟩ = some (.int .u32 m.epoch) ∧ w.cell? ⟨g, t * 7 + 3, none⟩ = some (.int .i64 m.kind) ∧ w.cell? ⟨g, t * 7 + 4, none⟩ = some (.int .u32 m.ack) ∧ w.cell? ⟨g, t * 7 + 5, none⟩ = some (.int .u32 m.seq) ∧ w.cell? ⟨g, t * 7 + 6, none⟩ = some (.string m.body) := by
  obtain ⟨a', cap, e, _, _, h3⟩ := h.form
  injection e with e1 e2 e3
  have ht : t < ms.length := (List.getElem?_eq_some_iff.1 hm).1
  obtain ⟨g, hg, _, _, hc⟩ := h3 (by omega)
  have hx := fun j hj u (hu : m.cells[j]? = some u) => hc (t * 7 + j) u ((msg_get ms t m hm j hj).trans hu)
  exact ⟨g, e1.trans hg, hx 0 (by decide) _ rfl, hx 1 (by decide) _ rfl, hx 2 (by decide) _ rfl, hx 3 (by decide) _ rfl, hx 4 (by decide) _ rfl, hx 5 (by decide) _ rfl, hx 6 (by decide) _ rfl⟩
/-- the hub has changed, and has handed out a row of its own making -/
theorem CalmM.hV {w wr w' : World} {p q : Nat} {c : Nat → Nat} {S : CS} (h : CalmM w wr p q c S) {v : Value} {e : TypeId} {sz n : Nat} {xs : List Value} {l' : List Life} {G' : Int → Option Int} (hx : HubAt w' (fun k => (c k = 2 ∨ wr.heap.size ≤ k) ∧ ¬ v.ownBlock = some k) q l' G') (hv : Row w' (fun k => wr.heap.size ≤ k) e sz v n xs) (hm : Mod (fun k => c k = 2) wr w') :
    ∃ c', CalmM w w' p q c' { S with l := l', G := G' } ∧ Row w' (fun k => c' k = 7) e sz v n xs ∧ (∀ k, k < wr.heap.size → c' k = c k) := by
  have hs := h.col.mod.size
  have hC := h.col.step hm (by decide) 2
  have hno : ∀ k, k < wr.heap.size → ¬ v.ownBlock = some k := fun k hk e => by have := hv.2 k e; omega
  have hpo : ∀ k, k < wr.heap.size → paint c wr w' 2 k = c k := fun k hk => by unfold paint; rw [if_neg (by omega)]
  refine ⟨fun k => if v.ownBlock = some k then 7 else paint c wr w' 2 k, ⟨⟨fun k hk => ?_, fun k hk => ?_, hC.mod⟩, (h.e.keep hm (mod_away (by decide))).mono fun k hk _ => ?_, hx.mono fun k hk hl => ?_⟩, ⟨hv.1, fun g hg => if_pos hg⟩, fun k hk => ?_⟩
  · rw [if_neg (hno k (by omega))]; exact hC.old k hk
  · rw [if_neg (fun e => by have := hv.lt k e; omega)]; exact hC.new k hk
  · have hl := h.col.lt (by decide) k hk
    rw [if_neg (hno k hl), hpo k hl]; exact hk
  · show (if v.ownBlock = some k then 7 else paint c wr w' 2 k) = 2
    rw [if_neg hk.2]; exact paint_mine h.col (by decide) k hk.1 hl
  · show (if v.ownBlock = some k then 7 else paint c wr w' 2 k) = c k
    rw [if_neg (hno k hk), hpo k hk]
end Go.Proofs.Ytidkapanpieflaa
