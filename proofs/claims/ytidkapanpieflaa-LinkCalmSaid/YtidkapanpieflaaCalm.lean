/- LinkCalm: the walk. (Printed by gen_calm.py.) -/
import Derived.Test.YtidkapanpieflaaCalmR
import Derived.Test.YtidkapanpieflaaRunA
import Derived.ProofKit
import Derived.Test.YtidkapanpieflaaRows
import Derived.KernelRfl
import Derived.Deep.CutBlock
namespace Go.Proofs.Ytidkapanpieflaa
open Go.RowKit
set_option linter.unusedVariables false
set_option linter.unusedSimpArgs false
theorem EndAt.life {w : World} {q : Nat} {f : Nat → Prop} {L : Life} (h : EndAt w q f L) : L.out.Ok ∧ L.inn.Ok ∧ (0 ≤ L.epoch ∧ L.epoch < 4294967296) := by
  obtain ⟨p, po, pi, fl, fs, fr, h1, hq, hp, hpf, hpq, hbq, hbp, hl, hs, hr, he, h4, h6, h7⟩ := h.parts
  exact ⟨hs.1, hr.1, he⟩
theorem HubAt.ok {w : World} {q : Nat} {f : Nat → Prop} {l : List Life} {G : Int → Option Int} (h : HubAt w f q l G) : ∀ L ∈ l, L.out.Ok ∧ L.inn.Ok ∧ (0 ≤ L.epoch ∧ L.epoch < 4294967296) ∧ (-9223372036854775808 ≤ L.node ∧ L.node < 9223372036854775808) := fun L hL => by
  obtain ⟨km, gm, vbo, c, h1, _⟩ := h
  obtain ⟨he, _, po, pi, fs, fr, _, hs, hr, _, _⟩ := h1.fam L hL
  exact ⟨hs.1, hr.1, he, h1.rg L hL⟩
theorem pkts_ok {s : Snd} {a n : Nat} : ∀ p ∈ s.pkts a n, 0 ≤ p.seq ∧ p.seq < 4294967296 := fun p hp => by
  obtain ⟨j, _, rfl⟩ := List.mem_map.1 hp
  exact Sr.add_bd _ _
theorem round_ok {E : Life} (h1 : E.inn.Ok) (h2 : 0 ≤ E.epoch ∧ E.epoch < 4294967296) (h3 : -9223372036854775808 ≤ E.node ∧ E.node < 9223372036854775808) : ∀ m ∈ E.round, m.Ok := fun m hm => by
  have n1 : E.node ≤ 9223372036854775807 := by omega
  unfold Life.round at hm
  rcases List.mem_append.1 hm with hm | hm
  · obtain ⟨p, hp, rfl⟩ := List.mem_map.1 hm
    obtain ⟨a, b⟩ := pkts_ok p hp
    exact ⟨h1.n0, h1.n1, a, b, h2.1, h2.2, h3.1, n1, by show (-9223372036854775808 : Int) ≤ 2; decide, by show (2 : Int) ≤ 9223372036854775807; decide⟩
  · rw [Life.beat_eq] at hm
    rcases List.mem_cons.1 hm with rfl | hm
    · exact ⟨h1.n0, h1.n1, Int.le_refl 0, (by show (0 : Int) < 4294967296; decide), h2.1, h2.2, h3.1, n1, by show (-9223372036854775808 : Int) ≤ 1; decide, by show (1 : Int) ≤ 9223372036854775807; decide⟩
    · obtain ⟨p, hp, rfl⟩ := List.mem_map.1 hm
      obtain ⟨a, b⟩ := pkts_ok p hp
      exact ⟨h1.n0, h1.n1, a, b, h2.1, h2.2, h3.1, n1, by show (-9223372036854775808 : Int) ≤ 2; decide, by show (2 : Int) ≤ 9223372036854775807; decide⟩
theorem round_len {E : Life} (h : E.out.Ok) : E.round.length ≤ 200 := by
  have h1 := h.s2
  have h2 := h.w1
  have h3 := h.s1
  unfold Life.round Life.sends Life.sent
  rw [Life.beat_eq]
  simp [Life.agains, Snd.news, Snd.again, Snd.send, Snd.pkts]
  omega
theorem drain_len : ∀ (n : Nat) (r : Rcv), (r.drain n).1.length ≤ n
  | 0, r => Nat.le_refl _
  | n + 1, r => by
    unfold Rcv.drain
    split
    · simp
    · have := drain_len n { r with next := Sr.add r.next 1, held := Pkt.del r.held r.next }
      simp; omega
theorem take_len {r : Rcv} (h : r.Ok) (p : Pkt) : (r.take p).1.length ≤ 65 := by
  have h1 := h.len
  unfold Rcv.take
  split
  · refine Nat.le_trans (drain_len _ _) ?_
    unfold Rcv.put
    split
    · omega
    · simp; omega
  · simp
theorem hear_len {L : Life} (h : L.inn.Ok) (m : MsgV) : (L.hear m).1.length ≤ 65 := by
  unfold Life.hear
  split
  · exact take_len h _
  · simp
theorem fresh_ok (n : Int) (up : Bool) (ep : Int) : (Life.fresh n up ep).inn.Ok := ⟨Int.le_refl 0, (show (0 : Int) < 4294967296 by decide), (show 1 ≤ 8 by decide), (show 8 ≤ 64 by decide), List.nodup_nil, fun p hp => (by cases hp)⟩
theorem hubHear_len {l : List Life} {G : Int → Option Int} {m : MsgV} (h : ∀ L ∈ l, L.inn.Ok) : (hubHear l G m).2.1.length ≤ 65 ∧ (hubHear l G m).2.2.1.length ≤ 1 ∧ (m.Ok → ∀ o ∈ (hubHear l G m).2.2.1, o.Ok) := by
  have hn : (hubNew l m).2.1.length ≤ 65 ∧ (hubNew l m).2.2.1.length ≤ 1 ∧ (m.Ok → ∀ o ∈ (hubNew l m).2.2.1, o.Ok) := ⟨hear_len (fresh_ok _ _ _) m, Nat.zero_le _, fun _ o ho => (by cases ho)⟩
  unfold hubHear
  split
  · exact ⟨Nat.zero_le _, Nat.zero_le _, fun _ o ho => (by cases ho)⟩
  · split
    · refine ⟨Nat.zero_le _, Nat.le_refl _, fun hm o ho => ?_⟩
      obtain rfl := List.mem_singleton.1 ho
      exact ⟨Int.le_refl 0, (by show (0 : Int) < 4294967296; decide), Int.le_refl 0, (by show (0 : Int) < 4294967296; decide), hm.e0, hm.e1, hm.n0, hm.n1, by show (-9223372036854775808 : Int) ≤ 3; decide, by show (3 : Int) ≤ 9223372036854775807; decide⟩
    · split
      · exact hn
      · rename_i L hL
        split
        · exact hn
        · split
          · exact ⟨Nat.zero_le _, Nat.zero_le _, fun _ o ho => (by cases ho)⟩
          · exact ⟨hear_len (h L (hfind_mem hL).1) m, Nat.zero_le _, fun _ o ho => (by cases ho)⟩
theorem CS.all_snoc (S : CS) (ms : List MsgV) (m : MsgV) : CS.all S (ms ++ [m]) = (CS.all S ms).hear m := by unfold CS.all; rw [List.foldl_append]; rfl
theorem hearAll_snoc (E : Life) (ms : List MsgV) (m : MsgV) : E.hearAll (ms ++ [m]) = ((E.hearAll ms).ehear m).2.2 := by unfold Life.hearAll; rw [List.foldl_append]; rfl
theorem hubRound_ok {l : List Life} (h : ∀ L ∈ l, L.inn.Ok ∧ (0 ≤ L.epoch ∧ L.epoch < 4294967296) ∧ (-9223372036854775808 ≤ L.node ∧ L.node < 9223372036854775808)) : ∀ m ∈ hubRound l, m.Ok := fun m hm => by
  have key : ∀ L ∈ l, ∀ x ∈ L.round, x.Ok := fun L hL => round_ok (h L hL).1 (h L hL).2.1 (h L hL).2.2
  unfold hubRound beats at hm
  rcases List.mem_append.1 hm with hm | hm
  · obtain ⟨L, hL, hx⟩ := List.mem_flatMap.1 hm
    exact key L hL m (List.mem_append.2 (.inl hx))
  · rcases List.mem_append.1 hm with hm | hm
    · obtain ⟨L', hL', rfl⟩ := List.mem_map.1 hm
      obtain ⟨L, hL, rfl⟩ := List.mem_map.1 hL'
      exact key L hL _ (List.mem_append.2 (.inr (by rw [Life.beat_eq]; exact List.mem_cons_self)))
    · obtain ⟨L', hL', hx⟩ := List.mem_flatMap.1 hm
      obtain ⟨L, hL, rfl⟩ := List.mem_map.1 hL'
      exact key L hL m (List.mem_append.2 (.inr (by rw [Life.beat_eq]; exact List.mem_cons_of_mem _ hx)))
theorem CalmM.eS {w wr w' : World} {p q : Nat} {c : Nat → Nat} {S : CS} (h : CalmM w wr p q c S) {E' : Life} (he : EndAt w' p (fun k => c k = 1) E') (hm : Mod (fun k => c k = 1) wr w') (i : Nat) : CalmM w w' p q (paint c wr w' i) { S with E := E' } :=
  ⟨h.col.step hm (by decide) i, he.mono (paint_away h.col (by decide) i), (h.h.keep hm (mod_away (by decide))).mono (paint_away h.col (by decide) i)⟩
theorem CalmM.row {w wr w' : World} {p q : Nat} {c : Nat → Nat} {S : CS} (h : CalmM w wr p q c S) {j : Nat} (hj : j ≠ 0) (h1 : 1 ≠ j) (h2 : 2 ≠ j) (hm : Mod (fun k => c k = j) wr w') (i : Nat) : CalmM w w' p q (paint c wr w' i) S :=
  ⟨h.col.step hm hj i, (h.e.keep hm (mod_away h1)).mono (paint_away h.col (by decide) i), (h.h.keep hm (mod_away h2)).mono (paint_away h.col (by decide) i)⟩
theorem hubS_phase {e0 : Int} {S : CS} {n c : Nat} (h : Phase e0 S n c) : S.l.length ≤ 1 := by
  rcases h with ⟨_, _, _, h⟩ | ⟨_, _, _, _, _, _, h⟩ | h
  · rcases h.hub with h | ⟨H, h, _⟩ <;> rw [h] <;> simp
  · rw [h.hub]; simp
  · rw [h.hub]; simp
theorem hubRound_len {l : List Life} (hl : l.length ≤ 1) (h : ∀ L ∈ l, L.out.Ok) : (l.flatMap Life.sends).length ≤ 200 ∧ (beats (l.map Life.sent)).length ≤ 200 := by
  match l, hl, h with
  | [], _, _ => exact ⟨Nat.zero_le _, Nat.zero_le _⟩
  | [L], _, h =>
    have h1 := round_len (h L List.mem_cons_self)
    have h2 : (beats [L.sent]).length = L.sent.beat.length := by unfold beats; rw [Life.beat_eq]; simp [Nat.add_comm]
    unfold Life.round at h1
    rw [List.length_append] at h1
    rw [List.map_cons, List.map_nil, h2, List.flatMap_cons, List.flatMap_nil, List.append_nil]
    omega
/-- a message of a row -/
theorem msg_get : ∀ (ms : List MsgV) (t : Nat) (m : MsgV), ms[t]? = some m → ∀ j, j < 7 → (MsgV.vals ms)[t * 7 + j]? = m.cells[j]?
  | [], t, m, h, _, _ => by simp at h
  | x :: ms, 0, m, h, j, hj => by
    simp at h
    subst h
    have : MsgV.vals (x :: ms) = x.cells.toList ++ MsgV.vals ms := by simp [MsgV.vals]
    rw [this, List.getElem?_append_left (by simp [MsgV.cells]; omega)]
    simp
  | x :: ms, t + 1, m, h, j, hj => by
    have : MsgV.vals (x :: ms) = x.cells.toList ++ MsgV.vals ms := by simp [MsgV.vals]
    have hl : x.cells.toList.length = 7 := rfl
    rw [this, List.getElem?_append_right (by rw [hl]; omega), hl, show (t + 1) * 7 + j - 7 = t * 7 + j by omega]
    exact msg_get ms t m (by simpa using h) j hj
theorem Row.msg {w : World} {f : Nat → Prop} {a : Option Addr} {n cp : Nat} {ms : List MsgV} (h : Row w f 65 7 (.slice a n cp) n (MsgV.vals ms)) (hn : n = ms.length) {t : Nat} {m : MsgV} (hm : ms[t]? = some m) :
    ∃ g, a = some ⟨g, 0, none⟩ ∧ w.cell? ⟨g, t * 7, none⟩ = some (.int .i64 m.node) ∧ w.cell? ⟨g, t * 7 + 1, none⟩ = some (.bool m.up) ∧ w.cell? ⟨g, t * 7 + 2, none⟩ = some (.int .u32 m.epoch) ∧ w.cell? ⟨g, t * 7 + 3, none⟩ = some (.int .i64 m.kind) ∧ w.cell? ⟨g, t * 7 + 4, none⟩ = some (.int .u32 m.ack) ∧ w.cell? ⟨g, t * 7 + 5, none⟩ = some (.int .u32 m.seq) ∧ w.cell? ⟨g, t * 7 + 6, none⟩ = some (.string m.body) := by
  obtain ⟨a', cap, e, _, _, h3⟩ := h.form
  injection e with e1 e2 e3
  have ht : t < ms.length := (List.getElem?_eq_some_iff.1 hm).1
  obtain ⟨g, hg, _, _, hc⟩ := h3 (by omega)
  have hx := fun j hj u (hu : m.cells[j]? = some u) => hc (t * 7 + j) u ((msg_get ms t m hm j hj).trans hu)
  exact ⟨g, e1.trans hg, hx 0 (by decide) _ rfl, hx 1 (by decide) _ rfl, hx 2 (by decide) _ rfl, hx 3 (by decide) _ rfl, hx 4 (by decide) _ rfl, hx 5 (by decide) _ rfl, hx 6 (by decide) _ rfl⟩
/-- the hub has changed, and has handed out a row of its own making -/
theorem CalmM.hV {w wr w' : World} {p q : Nat} {c : Nat → Nat} {S : CS} (h : CalmM w wr p q c S) {v : Value} {e : TypeId} {sz n : Nat} {xs : List Value} {l' : List Life} {G' : Int → Option Int} (hx : HubAt w' (fun k => (c k = 2 ∨ wr.heap.size ≤ k) ∧ ¬ v.ownBlock = some k) q l' G') (hv : Row w' (fun k => wr.heap.size ≤ k) e sz v n xs) (hm : Mod (fun k => c k = 2) wr w') :
    ∃ c', CalmM w w' p q c' { S with l := l', G := G' } ∧ Row w' (fun k => c' k = 7) e sz v n xs ∧ (∀ k, k < wr.heap.size → c' k = c k) := by
  have hs := h.col.mod.size
  have hC := h.col.step hm (by decide) 2
  have hno : ∀ k, k < wr.heap.size → ¬ v.ownBlock = some k := fun k hk e => by have := hv.2 k e; omega
  have hpo : ∀ k, k < wr.heap.size → paint c wr w' 2 k = c k := fun k hk => by unfold paint; rw [if_neg (by omega)]
  refine ⟨fun k => if v.ownBlock = some k then 7 else paint c wr w' 2 k, ⟨⟨fun k hk => ?_, fun k hk => ?_, hC.mod⟩, (h.e.keep hm (mod_away (by decide))).mono fun k hk _ => ?_, hx.mono fun k hk hl => ?_⟩, ⟨hv.1, fun g hg => if_pos hg⟩, fun k hk => ?_⟩
  · rw [if_neg (hno k (by omega))]; exact hC.old k hk
  · rw [if_neg (fun e => by have := hv.lt k e; omega)]; exact hC.new k hk
  · have hl := h.col.lt (by decide) k hk
    rw [if_neg (hno k hl), hpo k hl]; exact hk
  · show (if v.ownBlock = some k then 7 else paint c wr w' 2 k) = 2
    rw [if_neg hk.2]; exact paint_mine h.col (by decide) k hk.1 hl
  · show (if v.ownBlock = some k then 7 else paint c wr w' 2 k) = c k
    rw [if_neg (hno k hk), hpo k hk]
end Go.Proofs.Ytidkapanpieflaa
namespace Go.Proofs.Ytidkapanpieflaa
open Go.RowKit
set_option linter.unusedVariables false
set_option linter.unusedSectionVars false
namespace R
variable [vl : Val]
section
variable {P : Program} {w : World} {r : Reach} {b : Nat} {t : TypeId} {v : Value}
theorem ok_one (h : Cell.okWide P w r b t v) : v.oneCell' = true := by
  unfold Cell.okWide at h
  split at h <;> first
    | rfl
    | (unfold Cell.ok at h; split at h <;> first | rfl | exact h.elim)
theorem ok_leaf {d : TypeDesc} (hd : P.underlying t = some d) (hn : (match d with | .struct _ | .array _ _ => false | _ => true) = true) (h : Value.okWide P w r b t v) : v.oneCell' = true := by
  unfold Value.okWide at h
  rw [hd] at h
  cases d <;> first | exact ok_one h | cases hn
theorem ok_agg {d : TypeDesc} (hd : P.underlying t = some d) (hn : (match d with | .struct _ | .array _ _ => true | _ => false) = true) (h : Value.okWide P w r b t v) :
    ∃ l : List Value, v = .agg l.toArray ∧ l.length = P.cellsOf t ∧ ∀ c ∈ l, c.oneCell' = true := by
  unfold Value.okWide at h
  rw [hd] at h
  have key : (∃ cs, v = .agg cs ∧ cs.size = P.cellsOf t ∧ Row.okWide P w r b t cs) → ∃ l : List Value, v = .agg l.toArray ∧ l.length = P.cellsOf t ∧ ∀ c ∈ l, c.oneCell' = true := by
    rintro ⟨⟨l⟩, rfl, h1, ts, _, _, h2⟩
    refine ⟨l, rfl, by simpa using h1, fun c hc => ?_⟩
    obtain ⟨i, hi⟩ := List.getElem?_of_mem hc
    obtain ⟨u, _, hu⟩ := h2 i c (by simpa using hi)
    exact ok_one hu
  cases d <;> first | exact key h | cases hn
end
end R
end Go.Proofs.Ytidkapanpieflaa
namespace Go.Proofs.Ytidkapanpieflaa
set_option maxRecDepth 100000
def extL : List (FuncId × R.XK) := []
theorem extAll : R.XAll Try.prog extL := trivial
set_option linter.unusedSectionVars false
variable [vl : R.Val]
theorem ext_ok : R.EOk Try.prog (R.EX extL) := R.EX_ok extAll
end Go.Proofs.Ytidkapanpieflaa
namespace Go.Proofs.Ytidkapanpieflaa
open Go.RowKit
set_option maxRecDepth 1000000 in
theorem lives29_any (w : World) : Calls Try.prog 52 #[] w fun e w' => e = .returned (.bool true) ∧ Mod (fun _ => False) w w' :=
  R.runs_eq (E := R.EX extL) (hE := ext_ok) (P := Try.prog) (n := 1000) (k := 100) (us := #[]) (xs := []) (y := .v (.c (.x (.bool true)))) (by kernel_rfl) (by kernel_rfl) (show R.LR _ _ _ from trivial) R.hu_true w
end Go.Proofs.Ytidkapanpieflaa
namespace Go.Proofs.Ytidkapanpieflaa
open Go.RowKit
set_option linter.unusedVariables false
set_option linter.unusedSimpArgs false
theorem stepSz : (Try.prog.info? 82).map (·.size) = some 2 := by kernel_rfl
/-- the state behind the steps' own calls -/
structure CalmA (w wr : World) (p q pa : Nat) (c : Nat → Nat) (S : CS) (k at_ : Int) : Prop where
  m : CalmM w wr p q c S
  box : Blk wr pa 82 [.int .i64 k, .int .i64 at_]
  col : c pa = 9
set_option maxHeartbeats 40000000 in
set_option maxRecDepth 100000 in
theorem calm_walk (e0 : Int) (h0 : 0 ≤ e0) (h1 : e0 < 4294967296) (v : Value) (n : Nat) (hn43 : n ≤ 8796093022208) (l : Nat → Int × Int) (w : World) (hl : StepRow w v n l) :
    Calls Try.prog 9 #[.int .u32 e0, v] w fun e w' => e = .returned (.bool true) ∧ Mod (fun _ => False) w w' := by
  obtain ⟨ad, cap, rfl, hn, hc, hg⟩ := hl
  unfold maxLen at hc
  have HG := Lib.hid hg
  obtain ⟨m0, hm0⟩ : ∃ m0, m0 = min n 30 := ⟨_, rfl⟩
  have hm30 : m0 ≤ 30 := by omega
  have HM0 := Lib.hid hm0
  have hw20 : IntKind.i64.wrap ((n : Int) + 20) = (n : Int) + 20 := IntWalk.i64_in _ (by omega)
  clear hg hm0
  go_enter Try.func9, Try.ntmps9
  go_wp2_with fail
  refine (NewEnd_any 1 e0 _ h0 h1).mono ?_; rintro e w1 ⟨p, rfl, he, hm⟩
  obtain ⟨c1, hC, he⟩ : ∃ c, Col w w1 c ∧ EndAt w1 p (fun k => c k = 1) (Life.fresh 1 true e0) := ⟨_, (Col.start w).still hm 1, he.mono (paint_born (fun _ => 0) w w1 1)⟩
  have HC := Lib.hid hC
  have HE := Lib.hid he
  clear hC he hm
  go_wp2_with fail
  refine (NewHub_any _).mono ?_; rintro e w2 ⟨q, rfl, hx, hm⟩
  have HF : Hid (CalmM w w2 p q (paint c1 w1 w2 2) ⟨Life.fresh 1 true e0, [], fun _ => none, 0⟩) := Lib.hid ⟨HC.out.still hm 2, (HE.out.keep hm fun _ _ f => f).mono (paint_away HC.out (by decide) 2), hx.mono (paint_born c1 w1 w2 2)⟩
  have HI : Hid (InvC e0 m0 0 ⟨Life.fresh 1 true e0, [], fun _ => none, 0⟩ 0 0) := Lib.hid (.inl ⟨Nat.zero_le _, calm_start e0 h0 h1, Nat.le_refl _⟩)
  clear HC HE hx hm
  go_wp2_with fail
  go_loopw [7, 8, 9] (fun upv hv iv wr => ∃ (i : Nat) (c : Nat → Nat) (S : CS) (m cc : Nat), i ≤ m0 + 20 ∧ iv = .int .i64 (i : Int) ∧ upv = .int .i64 (m : Int) ∧ hv = .int .i64 (S.heard : Int) ∧ CalmM w wr p q c S ∧ InvC e0 m0 i S m cc ∧ cc ≤ 2 * i ∧ S.heard ≤ 1000000 * i ∧ m ≤ i) (fun _ _ iv _ => m0 + 20 - (intOf iv).toNat)
  case atStart => exact ⟨0, _, _, 0, 0, Nat.zero_le _, rfl, rfl, rfl, HF.out, HI.out, Nat.le_refl _, Nat.le_refl _, Nat.le_refl _⟩
  case round =>
    obtain ⟨i, c, S, m, cc, hi, rfl, rfl, rfl, hM, hI, hcc, hhd, hmi⟩ := hrel
    have HM := Lib.hid hM
    have HI2 := Lib.hid hI
    have HMB : Hid (m ≤ 800) := Lib.hid (by omega)
    clear hM hI HF HI
    by_cases hlt : i < m0 + 20
    · have hi1 : (i : Int) < (n : Int) + 20 := by have := HM0.out; omega
      have hi50 : (i : Int) < 50 := by omega
      go_wp2_with fail
      refine (EEpoch_any p _ S.E _ HM.out.e).mono ?_; rintro e w' ⟨rfl, rfl⟩
      go_upto_region 6 with fail
      obtain ⟨wA, hwA⟩ : ∃ wA, wA = wr.alloc (.cells #[.int .i64 2, .int .i64 0] 82) := ⟨_, rfl⟩
      obtain ⟨pa, hpa⟩ : ∃ pa, pa = wr.heap.size := ⟨_, rfl⟩
      have hA : ∃ cA, CalmA w wA p q pa cA S 2 0 := ⟨_, ⟨HM.out.still (hwA ▸ (Mod.refl _ _).alloc _) 9, by rw [hwA, hpa]; exact Blk.new wr _ _, by rw [hpa]; exact paint_born _ wr wA 9 _ (Nat.le_refl _) (by rw [hwA]; simp)⟩⟩
      try rw [← hwA]
      try rw [← hpa]
      obtain ⟨cA, hA⟩ := hA
      have HA := Lib.hid hA
      clear hA hwA hpa
      go_cut [46] from 25 to 145 (fun b wx => ∃ bb : Bool, b = .bool bb ∧ (bb = true ↔ (i < n ∧ i < 30)) ∧ wx = wA)
      case first =>
        by_cases hin : i < n
        · have hin1 : (i : Int) < (n : Int) := by omega
          by_cases hi3 : i < 30
          · have hi31 : (i : Int) < 30 := by omega
            go_wp2_with fail
            go_meet
            exact ⟨true, rfl, ⟨fun _ => ⟨hin, hi3⟩, fun _ => rfl⟩, rfl⟩
          · have hi31 : ¬ (i : Int) < 30 := by omega
            go_wp2_with fail
            go_meet
            exact ⟨false, rfl, ⟨fun h => Bool.noConfusion h, fun h => absurd h.2 hi3⟩, rfl⟩
        · have hin1 : ¬ (i : Int) < (n : Int) := by omega
          go_wp2_with fail
          go_meet
          exact ⟨false, rfl, ⟨fun h => Bool.noConfusion h, fun h => absurd h.1 hin⟩, rfl⟩
      case rest =>
        obtain ⟨bb, rfl, hbb, hwc⟩ := hcut
        rw [hwc]
        have HBB := Lib.hid hbb
        clear hbb hwc
        go_upto_if 46 with fail
        go_cut [] from 25 to 145 (fun wx => ∃ (k at_ : Int) (c5 : Nat → Nat), CalmA w wx p q pa c5 S k at_ ∧ (m0 ≤ i → k = 2))
        case first =>
          cases bb with
          | false =>
            go_wp2_with fail
            go_meet
            exact ⟨2, 0, cA, HA.out, fun _ => rfl⟩
          | true =>
            obtain ⟨hin, hi3⟩ := HBB.out.1 rfl
            obtain ⟨g, o, rfl, hgl, hcg⟩ := HG.out (by omega)
            obtain ⟨z, hz⟩ : ∃ z, z = l i := ⟨_, rfl⟩
            obtain ⟨x0, x1⟩ := hcg i hin
            rw [← hz] at x0 x1
            replace x0 := HA.out.m.col.mod.cell (fun f => f) x0
            replace x1 := HA.out.m.col.mod.cell (fun f => f) x1
            have hin1 : (i : Int) < (n : Int) := by omega
            clear hcg hz
            go_wp2_with (refine wpList_store_blk rfl _ _ _ rfl pa 0 82 [.int .i64 2, .int .i64 0] [.int .i64 z.1, .int .i64 z.2] rfl rfl HA.out.box (by simp) stepSz (by simp [Value.oneCell']) ?_; intro w5 HB5 HM5)
            go_meet
            have hA5 : CalmA w w5 p q pa (paint cA wA w5 9) S z.1 z.2 := ⟨HA.out.m.row (j := 9) (by decide) (by decide) (by decide) (HM5.out.mono fun k hk => .inl (by rw [hk]; exact HA.out.col)) 9, HB5.out, paint_away HA.out.m.col (by decide) 9 pa HA.out.col HB5.out.lt⟩
            exact ⟨z.1, z.2, _, hA5, fun h => by have := HM0.out; omega⟩
        case rest =>
          obtain ⟨k, at_, c5, hA5, hk2⟩ := hcut
          have HA5 := Lib.hid hA5
          have HK2 := Lib.hid hk2
          clear hA5 hk2 HA HBB HM
          go_upto_region 8 with fail
          go_cut [57] from 25 to 145 (fun b wx => ∃ (bb : Bool) (S1 : CS) (c6 : Nat → Nat), b = .bool bb ∧ S1 = (if k = 0 then S.push else S) ∧ bb = (decide (k = 0) && S.E.out.full) ∧ CalmA w wx p q pa c6 S1 k at_)
          case first =>
            have kb0 := HA5.out.box.cell (j := 0) rfl
            by_cases hk0 : k = 0
            · have hkb : (k == 0) = true := by simp [hk0]
              have hkd : decide (k = 0) = true := decide_eq_true hk0
              have HK0 := Lib.hid hk0
              clear hk0
              go_wp2_with fail
              refine (EPush_any p _ S.E xB _ HA5.out.m.e).mono ?_; rintro e w6 ⟨rfl, he, hm⟩
              have hA6 : CalmA w w6 p q pa (paint c5 _ w6 1) S.push k at_ := ⟨HA5.out.m.eM he hm, HA5.out.box.other HA5.out.col hm (by decide), paint_away HA5.out.m.col (by decide) 1 pa HA5.out.col (Nat.lt_of_lt_of_le HA5.out.box.lt hm.size)⟩
              have HA6 := Lib.hid hA6
              clear he hm hA6 kb0
              go_wp2_with fail
              go_meet
              exact ⟨S.E.out.full, S.push, _, rfl, by rw [if_pos HK0.out], by rw [hkd]; rfl, HA6.out⟩
            · have hkb : (k == 0) = false := by simp [hk0]
              have hkd : decide (k = 0) = false := decide_eq_false hk0
              have HK0 := Lib.hid hk0
              clear hk0
              go_wp2_with fail
              go_meet
              exact ⟨false, S, _, rfl, by rw [if_neg HK0.out], by rw [hkd]; rfl, HA5.out⟩
          case rest =>
            obtain ⟨bb, S1, c6, rfl, hS1, hbb, hA6⟩ := hcut
            have HA6 := Lib.hid hA6
            have HS1 := Lib.hid hS1
            have HBB := Lib.hid hbb
            obtain ⟨wB, hwB⟩ : ∃ wB, wB = wc := ⟨_, rfl⟩
            rw [← hwB] at HA6 ⊢
            clear hA6 hS1 hbb HA5 hwB
            go_upto_if 57 with fail
            go_cut [7] from 25 to 145 (fun u wx => u = .int .i64 ((upTo S k m : Nat) : Int) ∧ wx = wB)
            case first =>
              have hm20 : IntKind.i64.wrap ((m : Int) + 1) = (m : Int) + 1 := IntWalk.i64_in _ (by have := HMB.out; omega)
              cases bb with
              | true =>
                have hu : upTo S k m = m + 1 := by
                  have h := HBB.out.symm
                  rw [Bool.and_eq_true, decide_eq_true_eq] at h
                  unfold upTo
                  rw [if_pos h]
                have HU := Lib.hid hu
                clear hu
                go_wp2_with fail
                go_meet
                exact ⟨by rw [HU.out]; rfl, rfl⟩
              | false =>
                have hu : upTo S k m = m := by
                  have h := HBB.out.symm
                  unfold upTo
                  rw [if_neg]
                  intro h2
                  rw [decide_eq_true h2.1, h2.2] at h
                  cases h
                have HU := Lib.hid hu
                clear hu
                go_wp2_with fail
                go_meet
                exact ⟨by rw [HU.out], rfl⟩
            case rest =>
              obtain ⟨rfl, hwc⟩ := hcut
              rw [hwc]
              clear hwc HBB
              have kb0 := HA6.out.box.cell (j := 0) rfl
              go_upto_if 62 with fail
              clear kb0
              go_cut [] from 25 to 145 (fun wx => ∃ (S2 : CS) (c7 : Nat → Nat), S2 = (if k = 7 then S1.crash else S1) ∧ CalmA w wx p q pa c7 S2 k at_)
              case first =>
                by_cases hk7 : k = 7
                · have hkb : (k == 7) = true := by simp [hk7]
                  have HK7 := Lib.hid hk7
                  clear hk7
                  go_wp2_with fail
                  refine (ECrash_any p _ S1.E _ HA6.out.m.e).mono ?_; rintro e w7 ⟨⟨v7, rfl⟩, he, hm⟩
                  have hA7 : CalmA w w7 p q pa (paint c6 _ w7 1) S1.crash k at_ := ⟨HA6.out.m.eM he hm, HA6.out.box.other HA6.out.col hm (by decide), paint_away HA6.out.m.col (by decide) 1 pa HA6.out.col (Nat.lt_of_lt_of_le HA6.out.box.lt hm.size)⟩
                  have HA7 := Lib.hid hA7
                  clear he hm hA7
                  go_wp2_with fail
                  go_meet
                  exact ⟨S1.crash, _, by rw [if_pos HK7.out], HA7.out⟩
                · have hkb : (k == 7) = false := by simp [hk7]
                  have HK7 := Lib.hid hk7
                  clear hk7
                  go_wp2_with fail
                  go_meet
                  exact ⟨S1, _, by rw [if_neg HK7.out], HA6.out⟩
              case rest =>
                obtain ⟨S2, c7, hS2, hA7⟩ := hcut
                have HA7 := Lib.hid hA7
                have HS2 := Lib.hid hS2
                obtain ⟨wC, hwC⟩ : ∃ wC, wC = wc := ⟨_, rfl⟩
                rw [← hwC] at HA7 ⊢
                clear hA7 hS2 hwC HA6
                go_upto_region 12 with fail
                go_cut [71] from 25 to 145 (fun b wx => ∃ (bb : Bool) (S3 : CS) (c8 : Nat → Nat), b = .bool bb ∧ S3 = (if k = 8 then S2.drop else S2) ∧ bb = (decide (k = 8) && (hfind Life.node S2.l 1).isSome) ∧ CalmA w wx p q pa c8 S3 k at_)
                case first =>
                  have kb0 := HA7.out.box.cell (j := 0) rfl
                  by_cases hk8 : k = 8
                  · have hkb : (k == 8) = true := by simp [hk8]
                    have hkd : decide (k = 8) = true := decide_eq_true hk8
                    have HK8 := Lib.hid hk8
                    clear hk8
                    go_wp2_with fail
                    refine (HDrop_any HA7.out.m.h 1).mono ?_; rintro e w8 ⟨rfl, he, hm⟩
                    have hA8 : CalmA w w8 p q pa (paint c7 _ w8 2) S2.drop k at_ := ⟨(HA7.out.m.hM (he.mono fun k hk _ => .inl hk) hm).to rfl rfl rfl, HA7.out.box.other HA7.out.col hm (by decide), paint_away HA7.out.m.col (by decide) 2 pa HA7.out.col (Nat.lt_of_lt_of_le HA7.out.box.lt hm.size)⟩
                    have HA8 := Lib.hid hA8
                    clear he hm hA8 kb0
                    go_wp2_with fail
                    go_meet
                    exact ⟨_, S2.drop, _, rfl, by rw [if_pos HK8.out], by rw [hkd]; rfl, HA8.out⟩
                  · have hkb : (k == 8) = false := by simp [hk8]
                    have hkd : decide (k = 8) = false := decide_eq_false hk8
                    have HK8 := Lib.hid hk8
                    clear hk8
                    go_wp2_with fail
                    go_meet
                    exact ⟨false, S2, _, rfl, by rw [if_neg HK8.out], by rw [hkd]; rfl, HA7.out⟩
                case rest =>
                  obtain ⟨bb, S3, c8, rfl, hS3, hbb, hA8⟩ := hcut
                  have HA8 := Lib.hid hA8
                  have HS3 := Lib.hid hS3
                  have HBB := Lib.hid hbb
                  obtain ⟨wD, hwD⟩ : ∃ wD, wD = wc := ⟨_, rfl⟩
                  rw [← hwD] at HA8 ⊢
                  clear hA8 hS3 hbb HA7 hwD
                  have HAC : Hid (S3 = S.acted k) := Lib.hid (by
                    rw [HS3.out, HS2.out, HS1.out]
                    unfold CS.acted
                    by_cases a0 : k = 0
                    · subst a0; rfl
                    · by_cases a7 : k = 7
                      · subst a7; rfl
                      · rw [if_neg a0, if_neg a7, if_neg a0, if_neg a7])
                  have HHD : Hid (S2.heard = S.heard) := Lib.hid (by
                    rw [HS2.out, HS1.out]
                    split <;> split <;> rfl)
                  go_upto_if 71 with fail
                  go_cut [8] from 25 to 145 (fun u wx => u = .int .i64 (S3.heard : Int) ∧ wx = wD)
                  case first =>
                    have HQ : Hid (S3.heard = if bb = true then 0 else S.heard) := Lib.hid (by
                      rw [HS3.out, ← HHD.out, HBB.out]
                      by_cases a8 : k = 8
                      · rw [if_pos a8]
                        unfold CS.drop
                        simp [a8]
                      · rw [if_neg a8]
                        simp [a8])
                    cases bb with
                    | true =>
                      go_wp2_with fail
                      go_meet
                      exact ⟨by rw [HQ.out]; rfl, rfl⟩
                    | false =>
                      go_wp2_with fail
                      go_meet
                      exact ⟨by rw [HQ.out]; rfl, rfl⟩
                  case rest =>
                    obtain ⟨rfl, hwc⟩ := hcut
                    rw [hwc]
                    clear hwc HBB HHD HS1 HS2 HS3
                    obtain ⟨n1, cc1, hP, hcc1, hcc2, _, _⟩ := acted_phase HI2.out.phase (by have := HMB.out; omega) k
                    rw [← HAC.out] at hP
                    have HPH := Lib.hid hP
                    have hnode := hP.id.node
                    obtain ⟨hoo, hio, heo⟩ := HA8.out.m.e.life
                    have hrok : ∀ x ∈ S3.E.round, x.Ok := round_ok hio heo (by rw [hnode]; decide)
                    have hrlen := round_len hoo
                    obtain ⟨ms, hms⟩ : ∃ ms, ms = S3.E.round := ⟨_, rfl⟩
                    rw [← hms] at hrok hrlen
                    have HMS := Lib.hid hms
                    have HRO := Lib.hid hrok
                    clear hP hnode hoo hio heo hrok hms
                    go_wp2_with fail
                    refine (ESend_any p _ S3.E _ HA8.out.m.e).mono ?_; rintro e w1 ⟨v1, rfl, hv1, he, hm⟩
                    have hA9 : CalmA w w1 p q pa (paint c8 _ w1 7) { S3 with E := S3.E.sent } k at_ := ⟨HA8.out.m.eS he hm 7, HA8.out.box.other HA8.out.col hm (by decide), paint_away HA8.out.m.col (by decide) 7 pa HA8.out.col (Nat.lt_of_lt_of_le HA8.out.box.lt hm.size)⟩
                    have hV1 := hv1.monoLt (paint_born c8 _ w1 7)
                    generalize paint c8 wD w1 7 = c9 at hA9 hV1
                    have HA9 := Lib.hid hA9
                    have HV1 := Lib.hid hV1
                    clear he hm hv1 hA9 hV1
                    go_wp2_with fail
                    refine (EBeat_any p _ S3.E.sent _ HA9.out.m.e).mono ?_; rintro e w2 ⟨v2, rfl, hv2, hm⟩
                    have hA10 : CalmA w w2 p q pa (paint c9 _ w2 7) { S3 with E := S3.E.sent } k at_ := ⟨HA9.out.m.still hm 7, HA9.out.box.keep hm fun f => f, paint_away HA9.out.m.col (by decide) 7 pa HA9.out.col (Nat.lt_of_lt_of_le HA9.out.box.lt hm.size)⟩
                    have hV1 := (HV1.out.keep hm fun _ _ f => f).monoLt (paint_away HA9.out.m.col (by decide) 7)
                    generalize paint c9 w1 w2 7 = c10 at hA10 hV1
                    have HA10 := Lib.hid hA10
                    have HV1' := Lib.hid hV1
                    have HV2 := Lib.hid hv2.reads
                    have hml : ms.length = S3.E.out.news.length + S3.E.sent.beat.length := by rw [HMS.out]; unfold Life.round Life.sends; simp
                    have hmv : MsgV.vals ms = MsgV.vals (S3.E.out.news.map S3.E.body) ++ MsgV.vals S3.E.sent.beat := by rw [HMS.out]; unfold Life.round Life.sends; exact MsgV.vals_app _ _
                    have HML := Lib.hid hml
                    have HMV := Lib.hid hmv
                    have hnl1 : S3.E.out.news.length ≤ 200 := by omega
                    have hnl2 : S3.E.sent.beat.length ≤ 200 := by omega
                    clear hm hv2 hA10 hV1 HA9 HV1 hml hmv
                    go_wp2_with (at_builtin; go_loud (refine wpList_append_reads Try.elMsg rfl (.tmp 73) (.tmp 75) rfl (fun k => c10 k = 7) _ S3.E.out.news.length _ rfl HV1'.out v2 S3.E.sent.beat.length (MsgV.vals S3.E.sent.beat) rfl HV2.out (by rw [MsgV.vals_len]) (MsgV.vals_all _) (by omega) (by unfold maxLen; omega) ?_); intro v3 w3 hR3 hm3; have hA11 : CalmA w w3 p q pa (paint c10 w2 w3 7) { S3 with E := S3.E.sent } k at_ := ⟨HA10.out.m.row (j := 7) (by decide) (by decide) (by decide) hm3 7, HA10.out.box.other HA10.out.col hm3 (by decide), paint_away HA10.out.m.col (by decide) 7 pa HA10.out.col (Nat.lt_of_lt_of_le HA10.out.box.lt hm3.size)⟩; have hR4 := hR3.monoLt (paint_mine HA10.out.m.col (by decide)); have HA11 := Lib.hid hA11; have HR4 := Lib.hid hR4; clear hR3 hm3 hA11 hR4)
                    generalize paint c10 w2 w3 7 = c11 at HA11 HR4
                    rw [← HMV.out, ← HML.out] at HR4
                    obtain ⟨a3, cp3, rfl, _, _, _⟩ := HR4.out.form
                    obtain ⟨N, hN⟩ : ∃ N, N = ms.length := ⟨_, rfl⟩
                    rw [← hN] at hrlen HR4 ⊢
                    have HN := Lib.hid hN
                    have HS3h : Hid (S3.heard ≤ 1000000 * i) := Lib.hid (by
                      rw [HAC.out]
                      unfold CS.acted
                      split
                      · exact hhd
                      · split
                        · exact hhd
                        · split
                          · unfold CS.drop
                            dsimp only
                            split <;> omega
                          · exact hhd)
                    clear hN HA8 HA10 HV1' HV2 HMV HML hnl1 hnl2
                    go_wp2_with fail
                    go_loopw [8, 13] (fun hv kv wx => ∃ (t : Nat) (cx : Nat → Nat), t ≤ N ∧ kv = .int .i64 (t : Int) ∧ hv = .int .i64 ((CS.all { S3 with E := S3.E.sent } (ms.take t)).heard : Int) ∧ CalmA w wx p q pa cx (CS.all { S3 with E := S3.E.sent } (ms.take t)) k at_ ∧ Row wx (fun k => cx k = 7) 65 7 (.slice a3 N cp3) N (MsgV.vals ms) ∧ (CS.all { S3 with E := S3.E.sent } (ms.take t)).heard ≤ S3.heard + 65 * t ∧ (¬ (k = 2 ∨ k = 3) → t = 0)) (fun _ kv _ => N - (intOf kv).toNat)
                    case atStart => exact ⟨0, c11, Nat.zero_le _, rfl, rfl, HA11.out, HR4.out, Nat.le_refl _, fun _ => rfl⟩
                    case round =>
                      obtain ⟨t, cx, ht, rfl, rfl, hAx, hRx, hhx, htk⟩ := hrel
                      have HAX := Lib.hid hAx
                      have HRX := Lib.hid hRx
                      obtain ⟨T, hT⟩ : ∃ T, T = CS.all { S3 with E := S3.E.sent } (ms.take t) := ⟨_, rfl⟩
                      rw [← hT] at hhx HAX ⊢
                      have HT := Lib.hid hT
                      have HTK := Lib.hid htk
                      have HS3x := HS3h.out
                      clear hAx hRx hT htk HA11 HR4
                      go_upto_region 16 with fail
                      go_cut [90] from 77 to 119 (fun b wy => b = .bool (decide (t < N ∧ (k = 2 ∨ k = 3))) ∧ wy = wr)
                      case first =>
                        have kb0 := HAX.out.box.cell (j := 0) rfl
                        by_cases hlt2 : t < N
                        · have hki : (t : Int) < (N : Int) := by omega
                          by_cases hk2' : k = 2
                          · have hkb : (k == 2) = true := by simp [hk2']
                            have HD : Hid (decide (t < N ∧ (k = 2 ∨ k = 3)) = true) := Lib.hid (decide_eq_true ⟨hlt2, .inl hk2'⟩)
                            clear hk2'
                            go_wp2_with fail
                            go_meet
                            exact ⟨by rw [HD.out], rfl⟩
                          · by_cases hk3' : k = 3
                            · have hkb : (k == 2) = false := by simp [hk2']
                              have hkb3 : (k == 3) = true := by simp [hk3']
                              have HD : Hid (decide (t < N ∧ (k = 2 ∨ k = 3)) = true) := Lib.hid (decide_eq_true ⟨hlt2, .inr hk3'⟩)
                              clear hk2' hk3'
                              go_wp2_with fail
                              go_meet
                              exact ⟨by rw [HD.out], rfl⟩
                            · have hkb : (k == 2) = false := by simp [hk2']
                              have hkb3 : (k == 3) = false := by simp [hk3']
                              have HD : Hid (decide (t < N ∧ (k = 2 ∨ k = 3)) = false) := Lib.hid (decide_eq_false (fun h => h.2.elim hk2' hk3'))
                              clear hk2' hk3'
                              go_wp2_with fail
                              go_meet
                              exact ⟨by rw [HD.out], rfl⟩
                        · have hki : ¬ (t : Int) < (N : Int) := by omega
                          have HD : Hid (decide (t < N ∧ (k = 2 ∨ k = 3)) = false) := Lib.hid (decide_eq_false (fun h => hlt2 h.1))
                          go_wp2_with fail
                          go_meet
                          exact ⟨by rw [HD.out], rfl⟩
                      case rest =>
                        obtain ⟨rfl, hwc⟩ := hcut
                        rw [hwc]
                        clear hwc
                        by_cases hgo : t < N ∧ (k = 2 ∨ k = 3)
                        · rw [decide_eq_true hgo]
                          have hki : (t : Int) < (N : Int) := by have := hgo.1; omega
                          obtain ⟨mz, hmz⟩ : ∃ mz, ms[t]? = some mz := ⟨_, List.getElem?_eq_getElem (by have := HN.out; have := hgo.1; omega)⟩
                          have HMOK : Hid mz.Ok := Lib.hid (HRO.out mz (List.mem_of_getElem? hmz))
                          have HNX : Hid (CS.all { S3 with E := S3.E.sent } (ms.take (t + 1)) = T.hear mz) := Lib.hid (by rw [List.take_add_one, hmz, Option.toList_some, CS.all_snoc, ← HT.out])
                          obtain ⟨g, rfl, x0, x1, x2, x3, x4, x5, x6⟩ := HRX.out.msg HN.out hmz
                          obtain ⟨r, hr⟩ : ∃ r, r = hubHear T.l T.G mz := ⟨_, rfl⟩
                          have hlen := hubHear_len (l := T.l) (G := T.G) (m := mz) fun L hL => (HAX.out.m.h.ok L hL).2.1
                          rw [← hr] at hlen
                          have HR := Lib.hid hr
                          have HLN := Lib.hid hlen
                          have HGO := Lib.hid hgo
                          clear hmz hr hlen hgo
                          go_wp2_with fail
                          refine (HHear_any HAX.out.m.h mz HMOK.out).mono ?_; rintro e w4 ⟨v1, v2, rfl, hv1, hv2, hx, hm⟩
                          rw [← HR.out] at hv1 hv2 hx
                          rw [← HR.out]
                          have hA12 : CalmA w w4 p q pa (paint cx _ w4 2) { T with l := r.2.2.2 } k at_ := ⟨(HAX.out.m.hM hx hm).to rfl rfl rfl, HAX.out.box.other HAX.out.col hm (by decide), paint_away HAX.out.m.col (by decide) 2 pa HAX.out.col (Nat.lt_of_lt_of_le HAX.out.box.lt hm.size)⟩
                          have hV2 := hv2.monoLt (paint_born cx _ w4 2)
                          have hR12 := (HRX.out.keep hm (mod_away (by decide))).monoLt (paint_away HAX.out.m.col (by decide) 2)
                          generalize paint cx wr w4 2 = c12 at hA12 hV2 hR12
                          obtain ⟨a1, cp1, rfl, _, _, _⟩ := hv1.form
                          obtain ⟨a2, cp2, rfl, _, _, _⟩ := hv2.form
                          obtain ⟨bg, hbg⟩ : ∃ b, b = r.1 := ⟨_, rfl⟩
                          obtain ⟨os, hos⟩ : ∃ o, o = r.2.2.1 := ⟨_, rfl⟩
                          obtain ⟨Lb, hLb⟩ : ∃ b, b = r.2.1.length := ⟨_, rfl⟩
                          rw [← hos] at hV2
                          obtain ⟨No, hNo⟩ : ∃ b, b = os.length := ⟨_, rfl⟩
                          have hlb := HLN.out.1
                          rw [← hLb] at hlb
                          rw [← hbg, ← hLb, ← hos, ← hNo]
                          rw [← hNo] at hV2
                          obtain ⟨hd0, hhd0⟩ : ∃ z : Nat, z = if bg = true then 0 else T.heard := ⟨_, rfl⟩
                          have HHD : Hid (hd0 ≤ T.heard ∧ (T.hear mz).heard = hd0 + Lb) := Lib.hid ⟨by rw [hhd0]; split <;> omega, by unfold CS.hear; rw [← HR.out, ← hbg, ← hLb, ← hhd0]⟩
                          have hhdle := HHD.out.1
                          have HOS := Lib.hid hos
                          have HNO := Lib.hid hNo
                          have HD0 := Lib.hid hhd0
                          have HA12 := Lib.hid hA12
                          have HV2 := Lib.hid hV2
                          have HR12 := Lib.hid hR12
                          clear hv1 hv2 hx hm hA12 hV2 hR12 hbg hos hLb hNo hhd0 x0 x1 x2 x3 x4 x5 x6 HAX HRX
                          go_upto_if 103 with fail
                          go_cut [8] from 77 to 119 (fun u wy => u = .int .i64 (hd0 : Int) ∧ wy = w4)
                          case first =>
                            cases bg with
                            | true =>
                              go_wp2_with fail
                              go_meet
                              exact ⟨by rw [HD0.out]; rfl, rfl⟩
                            | false =>
                              go_wp2_with fail
                              go_meet
                              exact ⟨by rw [HD0.out]; rfl, rfl⟩
                          case rest =>
                            obtain ⟨rfl, hwc⟩ := hcut
                            rw [hwc]
                            clear hwc
                            have hno1 : No ≤ 1 := by rw [HNO.out, HOS.out]; exact HLN.out.2.1
                            have hw21 : IntKind.i64.wrap ((hd0 : Int) + (Lb : Int)) = ((hd0 + Lb : Nat) : Int) := by rw [IntWalk.i64_in _ (by omega)]; omega
                            go_wp2_with fail
                            go_loopw [17] (fun jv wy => ∃ (j : Nat) (cy : Nat → Nat), j ≤ No ∧ jv = .int .i64 (j : Int) ∧ CalmA w wy p q pa cy { T with E := T.E.hearAll (os.take j), l := r.2.2.2 } k at_ ∧ Row wy (fun k => cy k = 2) 65 7 (.slice a2 No cp2) No (MsgV.vals os) ∧ Row wy (fun k => cy k = 7) 65 7 (.slice (some ⟨g, 0, none⟩) N cp3) N (MsgV.vals ms)) (fun jv _ => No - (intOf jv).toNat)
                            case atStart => exact ⟨0, c12, Nat.zero_le _, rfl, HA12.out, HV2.out, HR12.out⟩
                            case round =>
                              obtain ⟨j, cy, hj, rfl, hAy, hVy, hRy⟩ := hrel
                              have HAY := Lib.hid hAy
                              have HVY := Lib.hid hVy
                              have HRY := Lib.hid hRy
                              clear hAy hVy hRy HA12 HV2 HR12
                              by_cases hltj : j < No
                              · have hkj : (j : Int) < (No : Int) := by omega
                                obtain ⟨oz, hoz⟩ : ∃ oz, os[j]? = some oz := ⟨_, List.getElem?_eq_getElem (by have := HNO.out; omega)⟩
                                have HOOK : Hid oz.Ok := Lib.hid (HLN.out.2.2 HMOK.out oz (by rw [← HOS.out]; exact List.mem_of_getElem? hoz))
                                have HTJ : Hid (T.E.hearAll (os.take (j + 1)) = ((T.E.hearAll (os.take j)).ehear oz).2.2) := Lib.hid (by rw [List.take_add_one, hoz, Option.toList_some, hearAll_snoc])
                                obtain ⟨g2, rfl, y0, y1, y2, y3, y4, y5, y6⟩ := HVY.out.msg HNO.out hoz
                                clear hoz
                                go_wp2_with fail
                                refine (EHear_any p _ _ oz _ HAY.out.m.e HOOK.out).mono ?_; rintro e w5 ⟨v5, rfl, hv5, he, hm⟩
                                rw [← HTJ.out] at he
                                have HA13 : Hid (CalmA w w5 p q pa (paint cy _ w5 1) { T with E := T.E.hearAll (os.take (j + 1)), l := r.2.2.2 } k at_) := Lib.hid ⟨(HAY.out.m.eM he hm).to rfl rfl rfl, HAY.out.box.other HAY.out.col hm (by decide), paint_away HAY.out.m.col (by decide) 1 pa HAY.out.col (Nat.lt_of_lt_of_le HAY.out.box.lt hm.size)⟩
                                have HV13 := Lib.hid ((HVY.out.keep hm (mod_away (by decide))).monoLt (paint_away HAY.out.m.col (by decide) 1))
                                have HR13 := Lib.hid ((HRY.out.keep hm (mod_away (by decide))).monoLt (paint_away HAY.out.m.col (by decide) 1))
                                clear he hm hv5 y0 y1 y2 y3 y4 y5 y6 HAY HVY HRY
                                go_wp2_with fail
                                go_roundw
                                case rel => exact ⟨j + 1, _, by omega, by go_num, HA13.out, HV13.out, HR13.out⟩
                                case measure => simp [intOf]; omega
                              · have hkj : ¬ (j : Int) < (No : Int) := by omega
                                have HAZ : Hid (CalmA w wr p q pa cy (T.hear mz) k at_) := Lib.hid (by
                                  have e1 : os.take j = os := by rw [List.take_of_length_le]; have := HNO.out; omega
                                  have h := HAY.out
                                  rw [e1] at h
                                  refine ⟨h.m.to ?_ ?_ rfl, h.box, h.col⟩
                                  · rw [HOS.out, HR.out]; rfl
                                  · rw [HR.out]; rfl)
                                clear HAY HVY
                                go_wp2_with fail
                                go_roundw
                                case rel => exact ⟨t + 1, cy, by have := HGO.out.1; omega, by go_num, by rw [HNX.out, HHD.out.2, Int.natCast_add], by rw [HNX.out]; exact HAZ.out, HRY.out, by rw [HNX.out, HHD.out.2]; omega, fun h => absurd HGO.out.2 h⟩
                                case measure => have := HGO.out.1; simp [intOf]; omega
                        · rw [decide_eq_false hgo]
                          have hend : T = S3.mid k := by
                            rw [HT.out]
                            unfold CS.mid
                            by_cases hk23 : k = 2 ∨ k = 3
                            · rw [if_pos hk23]
                              have : t = N := by
                                by_cases h : t < N
                                · exact absurd ⟨h, hk23⟩ hgo
                                · omega
                              rw [this, HN.out, List.take_length, HMS.out]
                            · rw [if_neg hk23, HTK.out hk23]
                              rfl
                          have HEN := Lib.hid hend
                          clear hend hgo
                          obtain ⟨n2, cc2, hP2, _⟩ := HPH.out.mid (by omega) k
                          rw [← HEN.out] at hP2
                          have hl1 := hubS_phase hP2
                          have hok2 := hubRound_ok fun L hL => (HAX.out.m.h.ok L hL).2
                          obtain ⟨hln1, hln2⟩ := hubRound_len hl1 fun L hL => (HAX.out.m.h.ok L hL).1
                          obtain ⟨mm, hmm⟩ : ∃ mm, mm = hubRound T.l := ⟨_, rfl⟩
                          rw [← hmm] at hok2
                          have HOK2 := Lib.hid hok2
                          have HMM := Lib.hid hmm
                          have HL1 := Lib.hid hl1
                          obtain ⟨n3, hn3⟩ : ∃ z, z = (T.l.flatMap Life.sends).length := ⟨_, rfl⟩
                          obtain ⟨n4, hn4⟩ : ∃ z, z = (beats (T.l.map Life.sent)).length := ⟨_, rfl⟩
                          have HMV : Hid (MsgV.vals mm = MsgV.vals (T.l.flatMap Life.sends) ++ MsgV.vals (beats (T.l.map Life.sent)) ∧ mm.length = n3 + n4) := Lib.hid ⟨by rw [hmm]; unfold hubRound; exact MsgV.vals_app _ _, by rw [hmm, hn3, hn4]; unfold hubRound; rw [List.length_append]⟩
                          rw [← hn3] at hln1
                          rw [← hn4] at hln2
                          have HN3 := Lib.hid hn3
                          have HN4 := Lib.hid hn4
                          clear hP2 hl1 hok2 hmm hn3 hn4 HRX
                          go_wp2_with fail
                          refine (HSend_own HAX.out.m.h (by have := HL1.out; omega)).mono ?_; rintro e w20 ⟨v4, rfl, hv4, hx, hm⟩
                          obtain ⟨c20, hM20, hV4, hold⟩ := HAX.out.m.hV hx hv4 hm
                          rw [← HN3.out] at hV4
                          have HA20 : Hid (CalmA w w20 p q pa c20 { T with l := T.l.map Life.sent } k at_) := Lib.hid ⟨hM20.to rfl rfl rfl, HAX.out.box.other HAX.out.col hm (by decide), by rw [hold pa HAX.out.box.lt]; exact HAX.out.col⟩
                          have HV4 := Lib.hid hV4
                          clear hM20 hV4 hold hx hv4 hm HAX
                          go_wp2_with fail
                          refine (HBeat_any HA20.out.m.h (by have := HL1.out; simp; omega)).mono ?_; rintro e w21 ⟨v5, rfl, hv5, hm⟩
                          have hA21 : CalmA w w21 p q pa (paint c20 _ w21 7) { T with l := T.l.map Life.sent } k at_ := ⟨HA20.out.m.still hm 7, HA20.out.box.keep hm fun f => f, paint_away HA20.out.m.col (by decide) 7 pa HA20.out.col (Nat.lt_of_lt_of_le HA20.out.box.lt hm.size)⟩
                          have hV4 := (HV4.out.keep hm fun _ _ f => f).monoLt (paint_away HA20.out.m.col (by decide) 7)
                          generalize paint c20 w20 w21 7 = c21 at hA21 hV4
                          have hr5 := hv5.reads
                          rw [← HN4.out] at hr5
                          have HA21 := Lib.hid hA21
                          have HV4' := Lib.hid hV4
                          have HV5 := Lib.hid hr5
                          clear hm hv5 hr5 hA21 hV4 HA20 HV4
                          go_wp2_with (at_builtin; go_loud (refine wpList_append_reads Try.elMsg rfl (.tmp 121) (.tmp 123) rfl (fun k => c21 k = 7) _ n3 _ rfl HV4'.out v5 n4 (MsgV.vals (beats (T.l.map Life.sent))) rfl HV5.out (by rw [MsgV.vals_len, HN4.out]) (MsgV.vals_all _) (by omega) (by unfold maxLen; omega) ?_); intro v6 w22 hR6 hm6; have hA22 : CalmA w w22 p q pa (paint c21 w21 w22 7) { T with l := T.l.map Life.sent } k at_ := ⟨HA21.out.m.row (j := 7) (by decide) (by decide) (by decide) hm6 7, HA21.out.box.other HA21.out.col hm6 (by decide), paint_away HA21.out.m.col (by decide) 7 pa HA21.out.col (Nat.lt_of_lt_of_le HA21.out.box.lt hm6.size)⟩; have hR7 := hR6.monoLt (paint_mine HA21.out.m.col (by decide)); have HA22 := Lib.hid hA22; have HR7 := Lib.hid hR7; clear hR6 hm6 hA22 hR7)
                          generalize paint c21 w21 w22 7 = c22 at HA22 HR7
                          rw [← HMV.out.1, ← HMV.out.2] at HR7
                          obtain ⟨a6, cp6, rfl, _, _, _⟩ := HR7.out.form
                          obtain ⟨N2, hN2⟩ : ∃ z, z = mm.length := ⟨_, rfl⟩
                          rw [← hN2] at HR7 ⊢
                          have hN2l : N2 ≤ 400 := by rw [hN2, HMV.out.2]; omega
                          have HN2 := Lib.hid hN2
                          clear hN2 HA21 HV4' HV5 HMV HN3 HN4
                          go_wp2_with fail
                          go_loopw [19] (fun jv wy => ∃ (t2 : Nat) (cy : Nat → Nat), t2 ≤ N2 ∧ jv = .int .i64 (t2 : Int) ∧ CalmA w wy p q pa cy { T with l := T.l.map Life.sent, E := T.E.hearAll (mm.take t2) } k at_ ∧ Row wy (fun k => cy k = 7) 65 7 (.slice a6 N2 cp6) N2 (MsgV.vals mm) ∧ (k ≠ 2 → t2 = 0)) (fun jv _ => N2 - (intOf jv).toNat)
                          case atStart => exact ⟨0, c22, Nat.zero_le _, rfl, HA22.out, HR7.out, fun _ => rfl⟩
                          case round =>
                            obtain ⟨t2, cy, ht2, rfl, hAy, hRy, htk2⟩ := hrel
                            have HAY := Lib.hid hAy
                            have HRY := Lib.hid hRy
                            have HTK2 := Lib.hid htk2
                            clear hAy hRy htk2 HA22 HR7
                            go_upto_region 28 with fail
                            go_cut [133] from 125 to 141 (fun b wy => b = .bool (decide (t2 < N2 ∧ k = 2)) ∧ wy = wr)
                            case first =>
                              have kb0 := HAY.out.box.cell (j := 0) rfl
                              by_cases hlt2 : t2 < N2
                              · have hki : (t2 : Int) < (N2 : Int) := by omega
                                by_cases hk2' : k = 2
                                · have hkb : (k == 2) = true := by simp [hk2']
                                  have HD : Hid (decide (t2 < N2 ∧ k = 2) = true) := Lib.hid (decide_eq_true ⟨hlt2, hk2'⟩)
                                  clear hk2'
                                  go_wp2_with fail
                                  go_meet
                                  exact ⟨by rw [HD.out], rfl⟩
                                · have hkb : (k == 2) = false := by simp [hk2']
                                  have HD : Hid (decide (t2 < N2 ∧ k = 2) = false) := Lib.hid (decide_eq_false (fun h => hk2' h.2))
                                  clear hk2'
                                  go_wp2_with fail
                                  go_meet
                                  exact ⟨by rw [HD.out], rfl⟩
                              · have hki : ¬ (t2 : Int) < (N2 : Int) := by omega
                                have HD : Hid (decide (t2 < N2 ∧ k = 2) = false) := Lib.hid (decide_eq_false (fun h => hlt2 h.1))
                                go_wp2_with fail
                                go_meet
                                exact ⟨by rw [HD.out], rfl⟩
                            case rest =>
                              obtain ⟨rfl, hwc⟩ := hcut
                              rw [hwc]
                              clear hwc
                              by_cases hgo : t2 < N2 ∧ k = 2
                              · rw [decide_eq_true hgo]
                                have hki : (t2 : Int) < (N2 : Int) := by have := hgo.1; omega
                                obtain ⟨oz, hoz⟩ : ∃ oz, mm[t2]? = some oz := ⟨_, List.getElem?_eq_getElem (by have := HN2.out; have := hgo.1; omega)⟩
                                have HOOK : Hid oz.Ok := Lib.hid (HOK2.out oz (List.mem_of_getElem? hoz))
                                have HTJ : Hid (T.E.hearAll (mm.take (t2 + 1)) = ((T.E.hearAll (mm.take t2)).ehear oz).2.2) := Lib.hid (by rw [List.take_add_one, hoz, Option.toList_some, hearAll_snoc])
                                obtain ⟨g2, rfl, y0, y1, y2, y3, y4, y5, y6⟩ := HRY.out.msg HN2.out hoz
                                have HGO := Lib.hid hgo
                                clear hoz hgo
                                go_wp2_with fail
                                refine (EHear_any p _ _ oz _ HAY.out.m.e HOOK.out).mono ?_; rintro e w23 ⟨v7, rfl, hv7, he, hm⟩
                                rw [← HTJ.out] at he
                                have HA23 : Hid (CalmA w w23 p q pa (paint cy _ w23 1) { T with l := T.l.map Life.sent, E := T.E.hearAll (mm.take (t2 + 1)) } k at_) := Lib.hid ⟨(HAY.out.m.eM he hm).to rfl rfl rfl, HAY.out.box.other HAY.out.col hm (by decide), paint_away HAY.out.m.col (by decide) 1 pa HAY.out.col (Nat.lt_of_lt_of_le HAY.out.box.lt hm.size)⟩
                                have HR23 := Lib.hid ((HRY.out.keep hm (mod_away (by decide))).monoLt (paint_away HAY.out.m.col (by decide) 1))
                                clear he hm hv7 y0 y1 y2 y3 y4 y5 y6 HAY HRY
                                go_wp2_with fail
                                go_roundw
                                case rel => exact ⟨t2 + 1, _, by have := HGO.out.1; omega, by go_num, HA23.out, HR23.out, fun h => absurd HGO.out.2 h⟩
                                case measure => have := HGO.out.1; simp [intOf]; omega
                              · rw [decide_eq_false hgo]
                                have hE : T.E.hearAll (mm.take t2) = (T.fin k).E := by
                                  unfold CS.fin
                                  dsimp only
                                  by_cases hk : k = 2
                                  · rw [if_pos hk, HMM.out]
                                    rw [HMM.out] at HN2
                                    rw [List.take_of_length_le]
                                    rw [← HN2.out]
                                    by_cases h : t2 < N2
                                    · exact absurd ⟨h, hk⟩ hgo
                                    · omega
                                  · rw [if_neg hk, HTK2.out hk]
                                    rfl
                                have hfw : T.fin k = S.whole k := by rw [HEN.out, HAC.out]; rfl
                                obtain ⟨n9, c9, hI9, hc91, hc92, hce, hcn⟩ := round_law HI2.out hm30 (by omega) (by omega) (k := k) HK2.out
                                have hep := HI2.out.epoch hI9 (by omega) (by omega)
                                have hHD : (T.fin k).heard = T.heard := rfl
                                have hM9 : CalmM w wr p q cy (T.fin k) := HAY.out.m.to hE rfl rfl
                                obtain ⟨Z, hZ⟩ : ∃ Z, Z = S.whole k := ⟨_, rfl⟩
                                rw [hfw, ← hZ] at hM9 hHD
                                rw [← hZ] at hI9 hep
                                rw [← hHD]
                                have hup := upTo_le S k m
                                obtain ⟨um, hum⟩ : ∃ um, um = upTo S k m := ⟨_, rfl⟩
                                rw [← hum] at hce hup ⊢
                                have HM9 := Lib.hid hM9
                                have HI9 := Lib.hid hI9
                                have HHH : Hid (Z.heard ≤ 1000000 * (i + 1)) := Lib.hid (by rw [hHD]; have := HS3h.out; omega)
                                clear hE hfw hM9 hI9 hZ HAY HRY hum hHD hgo
                                by_cases hcc9 : c9 = cc
                                · have HEQ := Lib.hid (hep.2 hcc9)
                                  have HUM : Hid (um = n9) := Lib.hid (hce hcc9).symm
                                  clear hep hcc9 hce hcn
                                  go_wp2_with fail
                                  refine (EEpoch_any p _ Z.E _ HM9.out.e).mono ?_; rintro e w' ⟨rfl, rfl⟩
                                  rw [HEQ.out]
                                  go_wp2_with fail
                                  go_roundw
                                  case rel => exact ⟨i + 1, _, Z, n9, c9, by omega, by go_num, by rw [HUM.out], rfl, HM9.out, HI9.out, by omega, HHH.out, by have := HUM.out; omega⟩
                                  case measure => simp [intOf]; omega
                                · have hne : (Z.E.epoch == S.E.epoch) = false := by
                                    rw [beq_eq_false_iff_ne]
                                    exact fun e => hcc9 (hep.1 e)
                                  have HN0 : Hid (n9 = 0) := Lib.hid (hcn hcc9)
                                  clear hep hcc9 hce hcn
                                  go_wp2_with fail
                                  refine (EEpoch_any p _ Z.E _ HM9.out.e).mono ?_; rintro e w' ⟨rfl, rfl⟩
                                  go_wp2_with fail
                                  go_roundw
                                  case rel => exact ⟨i + 1, _, Z, n9, c9, by omega, by go_num, by rw [HN0.out]; rfl, rfl, HM9.out, HI9.out, by omega, HHH.out, by have := HN0.out; omega⟩
                                  case measure => simp [intOf]; omega
    · obtain rfl : i = m0 + 20 := by omega
      obtain ⟨HH, hl2, hf2, he2, hh2, hb2⟩ := round_end HI2.out
      have HF2 := Lib.hid hf2
      have HE2 := Lib.hid he2
      have HH2 := Lib.hid hh2
      have HB2 := Lib.hid hb2
      have hexit : ∀ K : Prop, (¬ ((m0 + 20 : Nat) : Int) < (n : Int) + 20 → K) → ((((m0 + 20 : Nat) : Int) < (n : Int) + 20) → ¬ ((m0 + 20 : Nat) : Int) < 50 → K) → K := fun K a b => by
        by_cases h : ((m0 + 20 : Nat) : Int) < (n : Int) + 20
        · exact b h (by have := HM0.out; omega)
        · exact a h
      have HEX := Lib.hid hexit
      clear hl2 hf2 he2 hh2 hb2 hexit hlt
      obtain ⟨ii, hii⟩ : ∃ ii : Int, ii = ((m0 + 20 : Nat) : Int) := ⟨_, rfl⟩
      rw [← hii] at HEX ⊢
      clear hii
      by_cases hin : ii < (n : Int) + 20
      · have hi5 : ¬ ii < 50 := HEX.out _ (fun a => absurd hin a) (fun _ b => b)
        go_wp2_with fail
        refine (HEpoch_any HM.out.h 1).mono ?_; rintro e w' ⟨rfl, rfl⟩
        rw [HF2.out]
        try simp only [Option.elim_some, Option.isSome_some]
        rw [HE2.out, HH2.out]
        go_wp2_with fail
        refine (EEpoch_any p _ S.E _ HM.out.e).mono ?_; rintro e w' ⟨rfl, rfl⟩
        go_wp2_with fail
        refine (EOpen_any p _ S.E _ HM.out.e).mono ?_; rintro e w' ⟨rfl, rfl⟩
        rw [HB2.out]
        go_wp2_with fail
        refine (lives29_any _).mono ?_; rintro e w9 ⟨rfl, hm9⟩
        go_wp2
        go_ret
        exact ⟨rfl, HM.out.col.mod.trans hm9 fun _ f => f.elim⟩
      · skip
        go_wp2_with fail
        refine (HEpoch_any HM.out.h 1).mono ?_; rintro e w' ⟨rfl, rfl⟩
        rw [HF2.out]
        try simp only [Option.elim_some, Option.isSome_some]
        rw [HE2.out, HH2.out]
        go_wp2_with fail
        refine (EEpoch_any p _ S.E _ HM.out.e).mono ?_; rintro e w' ⟨rfl, rfl⟩
        go_wp2_with fail
        refine (EOpen_any p _ S.E _ HM.out.e).mono ?_; rintro e w' ⟨rfl, rfl⟩
        rw [HB2.out]
        go_wp2_with fail
        refine (lives29_any _).mono ?_; rintro e w9 ⟨rfl, hm9⟩
        go_wp2
        go_ret
        exact ⟨rfl, HM.out.col.mod.trans hm9 fun _ f => f.elim⟩
end Go.Proofs.Ytidkapanpieflaa
