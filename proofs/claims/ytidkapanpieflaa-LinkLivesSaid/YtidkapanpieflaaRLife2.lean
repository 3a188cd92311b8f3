/- The reference's life of a link: bodies, what is heard, the next life. -/
import Derived.Test.YtidkapanpieflaaRLife
namespace Go.Proofs.Ytidkapanpieflaa
open Go.RowKit
set_option linter.unusedVariables false
set_option linter.unusedSimpArgs false
set_option maxRecDepth 100000 in
set_option maxHeartbeats 1000000 in
theorem RBodies_any (p : Nat) (f : Nat → Prop) (L : RLife) (v1 : Value) (pkts : List Pkt) (w : World) (h : RLifeAt w p f L) (hv : Reads w v1 pkts.length (Pkt.vals pkts)) (hn : pkts.length ≤ 1000000) :
    Calls Try.prog 42 #[.pointer (some ⟨p, 0, none⟩), v1] w fun e w' => ∃ v, e = .returned v ∧ Row w' (fun k => w.heap.size ≤ k) 65 7 v pkts.length (MsgV.vals (pkts.map L.body)) ∧ Mod (fun _ => False) w w' := by
  obtain ⟨ad, cap, rfl, hnc, hcm, hg⟩ := hv
  have H := Lib.hid h
  have hpw := h.2.1.2
  have HG := Lib.hid hg
  obtain ⟨n, hnn⟩ : ∃ n, n = pkts.length := ⟨_, rfl⟩
  rw [← hnn] at hn hnc ⊢
  have HN := Lib.hid hnn
  clear h hg hnn
  go_enter Try.func42, Try.ntmps42
  go_wp2
  go_loopw [5, 6] (fun v i wr => ∃ k : Nat, k ≤ n ∧ i = .int .i64 k ∧ Row wr (fun k => w.heap.size ≤ k) 65 7 v k (MsgV.vals ((pkts.take k).map L.body)) ∧ Mod (fun _ => False) w wr) (fun _ i _ => n - (intOf i).toNat)
  case atStart => exact ⟨0, Nat.zero_le _, rfl, by simpa [MsgV.vals] using Row.made (f := fun k => w.heap.size ≤ k) (cur := #[]) (sz := 7) (n := 0) (allocNew w (.cells #[] 65)) rfl (by unfold maxLen; omega) (Nat.le_refl _), (Mod.refl _ _).alloc _⟩
  case round =>
    obtain ⟨k, hk, rfl, hr, hm⟩ := hrel
    have HR := Lib.hid hr
    have HM := Lib.hid hm
    obtain ⟨a5, c5, rfl, hk5, hc5, _⟩ := hr.form
    clear hr hm
    by_cases hlt : k < n
    · have hki : (k : Int) < (n : Int) := by omega
      have hkl : k < pkts.length := by rw [← HN.out]; exact hlt
      obtain ⟨g, o, rfl, hcg⟩ := HG.out (by omega)
      obtain ⟨x, hx⟩ : ∃ x, x = pkts[k]'hkl := ⟨_, rfl⟩
      have x0 : wr.cell? ⟨g, o + k * 2, none⟩ = some (.int .u32 x.seq) := HM.out.cell (fun f => f) (hx ▸ hcg _ _ (vals_get pkts k hkl).1)
      have x1 : wr.cell? ⟨g, o + k * 2 + 1, none⟩ = some (.string x.body) := HM.out.cell (fun f => f) (hx ▸ hcg _ _ (vals_get pkts k hkl).2)
      have hgw : g < w.heap.size := World.block_lt_of_cell? w _ (hcg _ _ (vals_get pkts k hkl).1)
      have HX : Hid (pkts.take (k + 1) = pkts.take k ++ [x]) := Lib.hid (by rw [List.take_add_one, List.getElem?_eq_getElem hkl, hx]; rfl)
      obtain ⟨_, _, po, pi, fs, fr, hb, _, hrr, _, _⟩ := (H.out.keep HM.out fun _ _ f => f).drew
      have hS : wr.drew.cell? ⟨p, 0, none⟩ = some (.int .i64 L.node) ∧ wr.drew.cell? ⟨p, 1, none⟩ = some (.bool L.up) ∧ wr.drew.cell? ⟨p, 2, none⟩ = some (.int .u32 L.epoch) ∧ wr.drew.cell? ⟨p, 4, none⟩ = some (.pointer (some ⟨pi, 0, none⟩)) ∧ wr.drew.cell? ⟨g, o + k * 2, none⟩ = some (.int .u32 x.seq) ∧ wr.drew.cell? ⟨g, o + k * 2 + 1, none⟩ = some (.string x.body) := ⟨cellOf hb 0, cellOf hb 1, cellOf hb 2, cellOf hb 4, x0, x1⟩
      have HRR := Lib.hid hrr
      clear hcg hx hkl hb hrr x0 x1
      go_wp2_with fail
      refine wp_region_plan [] [(0, 0), (1, 0), (2, 0), (3, 0), (4, 1), (5, 0), (6, 0), (7, 0), (8, 1), (9, 0), (10, 0), (11, 0), (12, 1), (13, 0), (14, 0), (15, 0), (16, 1), (18, 0), (19, 0), (20, 0), (21, 0), (22, 1), (23, 0), (24, 0), (25, 0), (26, 0), (27, 1), (17, 2), (28, 0), (29, 2), (30, 2), (31, 0)] (fun w' : World => w'.cell? ⟨p, 0, none⟩ = some (.int .i64 L.node) ∧ w'.cell? ⟨p, 1, none⟩ = some (.bool L.up) ∧ w'.cell? ⟨p, 2, none⟩ = some (.int .u32 L.epoch) ∧ w'.cell? ⟨p, 4, none⟩ = some (.pointer (some ⟨pi, 0, none⟩)) ∧ w'.cell? ⟨g, o + k * 2, none⟩ = some (.int .u32 x.seq) ∧ w'.cell? ⟨g, o + k * 2 + 1, none⟩ = some (.string x.body)) (by kernel_rfl) (by kernel_rfl) (fun d _ _ _ _ h => by cases d <;> exact h) ?_
      repeat (first | (refine plan_skip rfl rfl ?_; simp only [List.getElem_toArray, List.getElem_cons_succ, List.getElem_cons_zero, Act.put, List.setIfInBounds_toArray, List.set_cons_zero, List.set_cons_succ]) | (refine plan_pass2 rfl rfl ?_; simp only [List.getElem_toArray, List.getElem_cons_succ, List.getElem_cons_zero, Act.put, List.setIfInBounds_toArray, List.set_cons_zero, List.set_cons_succ]) | (refine plan_pass3 rfl rfl ?_; simp only [List.getElem_toArray, List.getElem_cons_succ, List.getElem_cons_zero, Act.put, List.setIfInBounds_toArray, List.set_cons_zero, List.set_cons_succ]) | (refine plan_take (v := ?_) rfl rfl ?_ ?_; rotate_left; (focus (intro w0; go_simp; try with_reducible rfl)); simp only [List.getElem_toArray, List.getElem_cons_succ, List.getElem_cons_zero, Act.put, List.setIfInBounds_toArray, List.set_cons_zero, List.set_cons_succ]) | (refine plan_held (v := ?_) rfl rfl hS ?_ ?_; rotate_left; (focus (intro w0 hSw; (try dsimp only at hSw); go_split_ands; go_simp; try with_reducible rfl)); simp only [List.getElem_toArray, List.getElem_cons_succ, List.getElem_cons_zero, Act.put, List.setIfInBounds_toArray, List.set_cons_zero, List.set_cons_succ])  | (refine plan_skip1 rfl rfl hS ?_; simp only [List.getElem_toArray, List.getElem_cons_succ, List.getElem_cons_zero, Act.put, List.setIfInBounds_toArray, List.set_cons_zero, List.set_cons_succ]))
      (refine plan_do rfl rfl fun K hK => ?_; try simp only [List.getElem_toArray, List.getElem_cons_succ, List.getElem_cons_zero])
      go_simp
      refine (RefNext_any pi fr L.r _ HRR.out).mono ?_; rintro e w' ⟨rfl, rfl⟩
      refine hK _ _ hS ?_
      clear hK K
      try simp only [List.getElem_toArray, List.getElem_cons_succ, List.getElem_cons_zero, Act.put, List.setIfInBounds_toArray, List.set_cons_zero, List.set_cons_succ]
      repeat (first | (refine plan_skip rfl rfl ?_; simp only [List.getElem_toArray, List.getElem_cons_succ, List.getElem_cons_zero, Act.put, List.setIfInBounds_toArray, List.set_cons_zero, List.set_cons_succ]) | (refine plan_pass2 rfl rfl ?_; simp only [List.getElem_toArray, List.getElem_cons_succ, List.getElem_cons_zero, Act.put, List.setIfInBounds_toArray, List.set_cons_zero, List.set_cons_succ]) | (refine plan_pass3 rfl rfl ?_; simp only [List.getElem_toArray, List.getElem_cons_succ, List.getElem_cons_zero, Act.put, List.setIfInBounds_toArray, List.set_cons_zero, List.set_cons_succ]) | (refine plan_take (v := ?_) rfl rfl ?_ ?_; rotate_left; (focus (intro w0; go_simp; try with_reducible rfl)); simp only [List.getElem_toArray, List.getElem_cons_succ, List.getElem_cons_zero, Act.put, List.setIfInBounds_toArray, List.set_cons_zero, List.set_cons_succ]) | (refine plan_held (v := ?_) rfl rfl hS ?_ ?_; rotate_left; (focus (intro w0 hSw; (try dsimp only at hSw); go_split_ands; go_simp; try with_reducible rfl)); simp only [List.getElem_toArray, List.getElem_cons_succ, List.getElem_cons_zero, Act.put, List.setIfInBounds_toArray, List.set_cons_zero, List.set_cons_succ])  | (refine plan_skip1 rfl rfl hS ?_; simp only [List.getElem_toArray, List.getElem_cons_succ, List.getElem_cons_zero, Act.put, List.setIfInBounds_toArray, List.set_cons_zero, List.set_cons_succ]))
      (refine plan_do rfl rfl fun K hK => ?_; (try simp only [List.getElem_toArray, List.getElem_cons_succ, List.getElem_cons_zero]); go_simp; refine hK _ _ ⟨allocCell _ hS.1, allocCell _ hS.2.1, allocCell _ hS.2.2.1, allocCell _ hS.2.2.2.1, allocCell _ hS.2.2.2.2.1, allocCell _ hS.2.2.2.2.2⟩ ?_; clear hK K; try simp only [List.getElem_toArray, List.getElem_cons_succ, List.getElem_cons_zero, Act.put, List.setIfInBounds_toArray, List.set_cons_zero, List.set_cons_succ])
      repeat (first | (refine plan_skip rfl rfl ?_; simp only [List.getElem_toArray, List.getElem_cons_succ, List.getElem_cons_zero, Act.put, List.setIfInBounds_toArray, List.set_cons_zero, List.set_cons_succ]) | (refine plan_pass2 rfl rfl ?_; simp only [List.getElem_toArray, List.getElem_cons_succ, List.getElem_cons_zero, Act.put, List.setIfInBounds_toArray, List.set_cons_zero, List.set_cons_succ]) | (refine plan_pass3 rfl rfl ?_; simp only [List.getElem_toArray, List.getElem_cons_succ, List.getElem_cons_zero, Act.put, List.setIfInBounds_toArray, List.set_cons_zero, List.set_cons_succ]) | (refine plan_take (v := ?_) rfl rfl ?_ ?_; rotate_left; (focus (intro w0; go_simp; try with_reducible rfl)); simp only [List.getElem_toArray, List.getElem_cons_succ, List.getElem_cons_zero, Act.put, List.setIfInBounds_toArray, List.set_cons_zero, List.set_cons_succ]) | fail )
      (refine plan_do rfl rfl fun K hK => ?_; try simp only [List.getElem_toArray, List.getElem_cons_succ, List.getElem_cons_zero])
      obtain ⟨cs, hcs⟩ : ∃ cs, cs = (L.body x).cells := ⟨_, rfl⟩
      have hcs1 : cs.size = 7 := by rw [hcs]; rfl
      have hcs2 : ∀ u ∈ cs.toList, u.oneCell' = true := by rw [hcs]; simp [RLife.body, MsgV.cells, Value.oneCell']
      refine wp_append_one Try.elMsg (.tmp 14) (.tmp 43) rfl cs _ _ _ _ ((HR.out.drew.drew).alloc _) wr.heap.size (by rw [hcs]; exact allocNewAt rfl) rfl rfl hcs1 hcs2 (by omega) (by unfold maxLen; omega) ?_
      intro v4 w4 hR hm4
      obtain ⟨a4, c4, rfl, hn4, hc4, _⟩ := hR.form
      have np : ¬ (Value.slice a5 k c5).ownBlock = some p := fun h => by have := HR.out.2 _ h; omega
      have ng : ¬ (Value.slice a5 k c5).ownBlock = some g := fun h => by have := HR.out.2 _ h; omega
      refine hK _ _ ⟨hm4.cell np (allocCell _ hS.1), hm4.cell np (allocCell _ hS.2.1), hm4.cell np (allocCell _ hS.2.2.1), hm4.cell np (allocCell _ hS.2.2.2.1), hm4.cell ng (allocCell _ hS.2.2.2.2.1), hm4.cell ng (allocCell _ hS.2.2.2.2.2)⟩ ?_
      clear hK K hS np ng
      try simp only [List.getElem_toArray, List.getElem_cons_succ, List.getElem_cons_zero, Act.put, List.setIfInBounds_toArray, List.set_cons_zero, List.set_cons_succ]
      have hsz := HM.out.size
      have hm5 : Mod (fun _ => False) w w4 := ((HM.out.drew.drew).alloc _).trans hm4 fun y hy => .inr (HR.out.2 y hy)
      have hR5 : Row w4 (fun k => w.heap.size ≤ k) 65 7 (.slice a4 (k + 1) c4) (k + 1) (MsgV.vals ((pkts.take (k + 1)).map L.body)) := by
        have := hR.mono (f' := fun k => w.heap.size ≤ k) fun y hy => hy.elim id fun h => by first | omega | exact Nat.le_trans hsz (allocLe h) | (simp at h; omega)
        rw [HX.out, List.map_append, List.map_cons, List.map_nil, MsgV.vals_snoc, ← hcs]
        simpa only [List.map_take] using this
      have HR5 := Lib.hid hR5
      have HM5 := Lib.hid hm5
      clear hR hm4 hm5 hR5 HR hcs hcs1 hcs2 HRR HX
      repeat (first | (refine plan_skip rfl rfl ?_; simp only [List.getElem_toArray, List.getElem_cons_succ, List.getElem_cons_zero, Act.put, List.setIfInBounds_toArray, List.set_cons_zero, List.set_cons_succ]) | (refine plan_pass2 rfl rfl ?_; simp only [List.getElem_toArray, List.getElem_cons_succ, List.getElem_cons_zero, Act.put, List.setIfInBounds_toArray, List.set_cons_zero, List.set_cons_succ]) | (refine plan_pass3 rfl rfl ?_; simp only [List.getElem_toArray, List.getElem_cons_succ, List.getElem_cons_zero, Act.put, List.setIfInBounds_toArray, List.set_cons_zero, List.set_cons_succ]) | (refine plan_take (v := ?_) rfl rfl ?_ ?_; rotate_left; (focus (intro w0; go_simp; try with_reducible rfl)); simp only [List.getElem_toArray, List.getElem_cons_succ, List.getElem_cons_zero, Act.put, List.setIfInBounds_toArray, List.set_cons_zero, List.set_cons_succ]) | fail )
      refine plan_nil ?_
      go_wp2
      go_roundw
      case rel => exact ⟨k + 1, by omega, by go_num, HR5.out, HM5.out⟩
      case measure => simp [intOf]; omega
    · have hki : ¬ (k : Int) < (n : Int) := by omega
      obtain rfl : k = n := by omega
      have HR5 : Hid (Row wr (fun k => w.heap.size ≤ k) 65 7 (.slice a5 k c5) k (MsgV.vals (pkts.map L.body))) := Lib.hid (by have := HR.out; rwa [List.take_of_length_le (by rw [← HN.out]; exact Nat.le_refl _)] at this)
      go_wp2
      go_returns
      exact ⟨_, rfl, HR5.out, HM.out⟩
/-- what it is as a life of the program's -/
def RLife.abs (X : RLife) : Life := ⟨X.node, X.up, X.epoch, X.s.snd, X.r.rcv⟩
set_option maxRecDepth 100000 in
theorem Rhear_any (p : Nat) (f : Nat → Prop) (L : RLife) (m : MsgV) (w : World) (h : RLifeAt w p f L) (hok : m.Ok) (hnn : L.r.n + 64 ≤ 1099511627776) :
    Calls Try.prog 77 #[.pointer (some ⟨p, 0, none⟩), .agg m.cells] w fun e w' => ∃ v L', e = .returned v ∧ Row w' (fun k => w.heap.size ≤ k) 9 1 v (L.abs.hear m).1.length ((L.abs.hear m).1.map .string) ∧ RLifeAt w' p (fun k => f k ∨ w.heap.size ≤ k) L' ∧ L'.abs = (L.abs.hear m).2 ∧ L'.s.l = L.s.l ∧ L'.r.n ≤ L.r.n + 64 ∧ Mod f w w' := by
  obtain ⟨hep, ⟨hp, hpl⟩, po, pi, fs, fr, hb, hs, hr, h6, h7⟩ := h
  have hsok := hs.1
  obtain ⟨mn, mu, me, mk, ma, ms, mb⟩ := m
  have ha0 := hok.a0
  have ha1 := hok.a1
  have hs0 := hok.s0
  have hs1 := hok.s1
  simp only at ha0 ha1 hs0 hs1
  have HSN : Hid (L.s.snd.ack ma = (L.s.ack ma).snd) := Lib.hid (snd_ack hsok ma ha0 ha1)
  unfold MsgV.cells
  have c3 : w.cell? ⟨p, 3, none⟩ = some (.pointer (some ⟨po, 0, none⟩)) := cellOf hb 3
  have HB := Lib.hid hb
  have HS := Lib.hid hs
  have HR := Lib.hid hr
  have H6 := Lib.hid h6
  have H7 := Lib.hid h7
  clear hb hs hr h6 h7 hok hsok
  go_enter Try.func77, Try.ntmps77
  go_wp2_with fail
  obtain ⟨wA, hwA⟩ : ∃ wA, wA = w.alloc (.cells #[.int .i64 mn, .bool mu, .int .u32 me, .int .i64 mk, .int .u32 ma, .int .u32 ms, .string mb] 65) := ⟨_, rfl⟩
  have hbA : wA.heap[w.heap.size]? = some (.cells #[.int .i64 mn, .bool mu, .int .u32 me, .int .i64 mk, .int .u32 ma, .int .u32 ms, .string mb] 65 (0, 0)) := hwA ▸ allocNew w _
  have hm : Mod (fun _ => False) w wA := hwA ▸ (Mod.refl _ _).alloc _
  have hsz : wA.heap.size = w.heap.size + 1 := by rw [hwA]; simp
  rw [← hwA]
  obtain ⟨pb, hpb⟩ : ∃ pb, pb = w.heap.size := ⟨_, rfl⟩
  rw [← hpb] at hbA ⊢
  have hS : wA.drew.cell? ⟨p, 3, none⟩ = some (.pointer (some ⟨po, 0, none⟩)) ∧ wA.drew.cell? ⟨pb, 4, none⟩ = some (.int .u32 ma) := ⟨hm.cell (fun f => f) c3, cellOf hbA 4⟩
  have HSA : Hid (RefSAt wA.drew po fs L.s) := Lib.hid (HS.out.keep hm.drew fun _ _ f => f)
  have HRA : Hid (RefRAt wA.drew pi fr L.r) := Lib.hid (HR.out.keep hm.drew fun _ _ f => f)
  have HBA : Hid (wA.drew.heap[p]? = _) := Lib.hid (hm.drew.keep HB.out fun f => f)
  have HPB : Hid (wA.drew.heap[pb]? = _) := Lib.hid hbA
  have HM : Hid (Mod (fun _ => False) w wA.drew) := Lib.hid hm.drew
  have HPE := Lib.hid hpb
  have HSZ : Hid (wA.drew.heap.size = w.heap.size + 1) := Lib.hid hsz
  clear hm hbA hwA c3 HS HR HB hpb hsz
  refine wp_region_plan [6] [(0, 0), (1, 0), (2, 0), (3, 1), (4, 0), (5, 1), (6, 3)] (fun w' : World => w'.cell? ⟨p, 3, none⟩ = some (.pointer (some ⟨po, 0, none⟩)) ∧ w'.cell? ⟨pb, 4, none⟩ = some (.int .u32 ma)) (by kernel_rfl) (by kernel_rfl) (fun d _ _ _ _ h => by cases d <;> exact h) ?_
  repeat (first | (refine plan_skip rfl rfl ?_; simp only [List.getElem_toArray, List.getElem_cons_succ, List.getElem_cons_zero, Act.put, List.setIfInBounds_toArray, List.set_cons_zero, List.set_cons_succ]) | (refine plan_pass2 rfl rfl ?_; simp only [List.getElem_toArray, List.getElem_cons_succ, List.getElem_cons_zero, Act.put, List.setIfInBounds_toArray, List.set_cons_zero, List.set_cons_succ]) | (refine plan_pass3 rfl rfl ?_; simp only [List.getElem_toArray, List.getElem_cons_succ, List.getElem_cons_zero, Act.put, List.setIfInBounds_toArray, List.set_cons_zero, List.set_cons_succ]) | (refine plan_take (v := ?_) rfl rfl ?_ ?_; rotate_left; (focus (intro w0; go_simp; try with_reducible rfl)); simp only [List.getElem_toArray, List.getElem_cons_succ, List.getElem_cons_zero, Act.put, List.setIfInBounds_toArray, List.set_cons_zero, List.set_cons_succ]) | (refine plan_held (v := ?_) rfl rfl hS ?_ ?_; rotate_left; (focus (intro w0 hSw; (try dsimp only at hSw); go_split_ands; go_simp; try with_reducible rfl)); simp only [List.getElem_toArray, List.getElem_cons_succ, List.getElem_cons_zero, Act.put, List.setIfInBounds_toArray, List.set_cons_zero, List.set_cons_succ])  | (refine plan_skip1 rfl rfl hS ?_; simp only [List.getElem_toArray, List.getElem_cons_succ, List.getElem_cons_zero, Act.put, List.setIfInBounds_toArray, List.set_cons_zero, List.set_cons_succ]))
  (refine plan_end rfl rfl rfl fun K hK => ?_; (try simp only [List.getElem_toArray, List.getElem_cons_succ, List.getElem_cons_zero]))
  go_simp
  refine (RefAck_any po fs L.s ma _ HSA.out ha0 ha1).mono ?_; rintro e w3 ⟨rfl, hs, hm⟩
  have np : ¬ fs p := fun h => (H6.out p h).2.1 rfl
  have npb : ¬ fs pb := fun h => by have := (H6.out pb h).1.2; have := HPE.out; omega
  refine hK _ _ ?_
  clear hK K hS
  try simp only [List.getElem_toArray, List.getElem_cons_succ, List.getElem_cons_zero, Act.put, List.setIfInBounds_toArray, List.set_cons_zero, List.set_cons_succ]
  have HS3 := Lib.hid hs
  have HR3 : Hid (RefRAt w3 pi fr L.r) := Lib.hid (HRA.out.keep hm fun k h1 h2 => (H6.out k h2).2.2 h1)
  have hb3 := hm.keep HBA.out np
  have hpb3 := hm.keep HPB.out npb
  have HM3 := Lib.hid hm
  have k3 : w3.cell? ⟨pb, 3, none⟩ = some (.int .i64 mk) := cellOf hpb3 3
  have HPB3 := Lib.hid hpb3
  have HB3 := Lib.hid hb3
  clear hs hm np npb hpb3 hb3 HSA HRA HBA HPB
  repeat (first | (refine plan_skip rfl rfl ?_; simp only [List.getElem_toArray, List.getElem_cons_succ, List.getElem_cons_zero, Act.put, List.setIfInBounds_toArray, List.set_cons_zero, List.set_cons_succ]) | (refine plan_pass2 rfl rfl ?_; simp only [List.getElem_toArray, List.getElem_cons_succ, List.getElem_cons_zero, Act.put, List.setIfInBounds_toArray, List.set_cons_zero, List.set_cons_succ]) | (refine plan_pass3 rfl rfl ?_; simp only [List.getElem_toArray, List.getElem_cons_succ, List.getElem_cons_zero, Act.put, List.setIfInBounds_toArray, List.set_cons_zero, List.set_cons_succ]) | (refine plan_take (v := ?_) rfl rfl ?_ ?_; rotate_left; (focus (intro w0; go_simp; try with_reducible rfl)); simp only [List.getElem_toArray, List.getElem_cons_succ, List.getElem_cons_zero, Act.put, List.setIfInBounds_toArray, List.set_cons_zero, List.set_cons_succ]) | fail )
  refine plan_nil ?_
  by_cases hk : mk = 2
  · have hkq : (mk == 2) = true := by simp [hk]
    have E1 : Hid (L.abs.hear ⟨mn, mu, me, mk, ma, ms, mb⟩ = ((L.r.rcv.take ⟨ms, mb⟩).1, { L.abs with out := (L.s.ack ma).snd, inn := (L.r.rcv.take ⟨ms, mb⟩).2 })) := Lib.hid (by unfold Life.hear; rw [if_pos hk, ← HSN.out]; rfl)
    clear hk
    have c4 : w3.cell? ⟨p, 4, none⟩ = some (.pointer (some ⟨pi, 0, none⟩)) := cellOf HB3.out 4
    have k5 : w3.cell? ⟨pb, 5, none⟩ = some (.int .u32 ms) := cellOf HPB3.out 5
    have k6 : w3.cell? ⟨pb, 6, none⟩ = some (.string mb) := cellOf HPB3.out 6
    go_wp2_with fail
    have hS : w3.drew.cell? ⟨p, 4, none⟩ = some (.pointer (some ⟨pi, 0, none⟩)) ∧ w3.drew.cell? ⟨pb, 5, none⟩ = some (.int .u32 ms) ∧ w3.drew.cell? ⟨pb, 6, none⟩ = some (.string mb) := ⟨c4, k5, k6⟩
    clear c4 k3 k5 k6
    refine wp_region_plan [] [(0, 0), (1, 0), (2, 0), (3, 1), (4, 0), (5, 1), (6, 0), (7, 1), (8, 0), (9, 2), (10, 0)] (fun w' : World => w'.cell? ⟨p, 4, none⟩ = some (.pointer (some ⟨pi, 0, none⟩)) ∧ w'.cell? ⟨pb, 5, none⟩ = some (.int .u32 ms) ∧ w'.cell? ⟨pb, 6, none⟩ = some (.string mb)) (by kernel_rfl) (by kernel_rfl) (fun d _ _ _ _ h => by cases d <;> exact h) ?_
    repeat (first | (refine plan_skip rfl rfl ?_; simp only [List.getElem_toArray, List.getElem_cons_succ, List.getElem_cons_zero, Act.put, List.setIfInBounds_toArray, List.set_cons_zero, List.set_cons_succ]) | (refine plan_pass2 rfl rfl ?_; simp only [List.getElem_toArray, List.getElem_cons_succ, List.getElem_cons_zero, Act.put, List.setIfInBounds_toArray, List.set_cons_zero, List.set_cons_succ]) | (refine plan_pass3 rfl rfl ?_; simp only [List.getElem_toArray, List.getElem_cons_succ, List.getElem_cons_zero, Act.put, List.setIfInBounds_toArray, List.set_cons_zero, List.set_cons_succ]) | (refine plan_take (v := ?_) rfl rfl ?_ ?_; rotate_left; (focus (intro w0; go_simp; try with_reducible rfl)); simp only [List.getElem_toArray, List.getElem_cons_succ, List.getElem_cons_zero, Act.put, List.setIfInBounds_toArray, List.set_cons_zero, List.set_cons_succ]) | (refine plan_held (v := ?_) rfl rfl hS ?_ ?_; rotate_left; (focus (intro w0 hSw; (try dsimp only at hSw); go_split_ands; go_simp; try with_reducible rfl)); simp only [List.getElem_toArray, List.getElem_cons_succ, List.getElem_cons_zero, Act.put, List.setIfInBounds_toArray, List.set_cons_zero, List.set_cons_succ])  | (refine plan_skip1 rfl rfl hS ?_; simp only [List.getElem_toArray, List.getElem_cons_succ, List.getElem_cons_zero, Act.put, List.setIfInBounds_toArray, List.set_cons_zero, List.set_cons_succ]))
    have HQ : Hid ((⟨ms, mb⟩ : Pkt).val = .agg #[.int .u32 ms, .string mb]) := Lib.hid rfl
    (refine plan_do rfl rfl fun K hK => ?_; try simp only [List.getElem_toArray, List.getElem_cons_succ, List.getElem_cons_zero])
    go_simp
    rw [← HQ.out]
    refine (RefTake_any pi fr L.r ⟨ms, mb⟩ _ (HR3.out.keep ((Mod.refl (fun _ => False) w3).drew) fun _ _ f => f) hs0 hs1 (fun k hk => Nat.lt_of_lt_of_le (Nat.lt_of_lt_of_le (H7.out k hk).1.2 HM.out.size) HM3.out.size) hnn).mono ?_; rintro e w5 ⟨v5, r5, rfl, hv5, hr5, hrc, hfi, hn5, hm5⟩
    have np3 : ¬ fr p := fun h => (H7.out p h).2 rfl
    have npb : ¬ fr pb := fun h => by have := (H7.out pb h).1.2; have := HPE.out; omega
    refine hK _ _ ⟨hm5.cell np3 hS.1, hm5.cell npb hS.2.1, hm5.cell npb hS.2.2⟩ ?_
    clear hK K hS
    try simp only [List.getElem_toArray, List.getElem_cons_succ, List.getElem_cons_zero, Act.put, List.setIfInBounds_toArray, List.set_cons_zero, List.set_cons_succ]
    replace hm5 := Mod.ofDrew hm5
    have HV5 := Lib.hid hv5
    have HR5 := Lib.hid hr5
    have HM5 := Lib.hid hm5
    have HRC := Lib.hid hrc
    clear hv5 hr5 hm5 hrc hfi
    repeat (first | (refine plan_skip rfl rfl ?_; simp only [List.getElem_toArray, List.getElem_cons_succ, List.getElem_cons_zero, Act.put, List.setIfInBounds_toArray, List.set_cons_zero, List.set_cons_succ]) | (refine plan_pass2 rfl rfl ?_; simp only [List.getElem_toArray, List.getElem_cons_succ, List.getElem_cons_zero, Act.put, List.setIfInBounds_toArray, List.set_cons_zero, List.set_cons_succ]) | (refine plan_pass3 rfl rfl ?_; simp only [List.getElem_toArray, List.getElem_cons_succ, List.getElem_cons_zero, Act.put, List.setIfInBounds_toArray, List.set_cons_zero, List.set_cons_succ]) | (refine plan_take (v := ?_) rfl rfl ?_ ?_; rotate_left; (focus (intro w0; go_simp; try with_reducible rfl)); simp only [List.getElem_toArray, List.getElem_cons_succ, List.getElem_cons_zero, Act.put, List.setIfInBounds_toArray, List.set_cons_zero, List.set_cons_succ]) | fail )
    refine plan_nil ?_
    go_wp2
    go_returns
    rw [E1.out]
    have hsz := HSZ.out
    have h3 := HM3.out.size
    have h5 := HM5.out.size
    refine ⟨_, { L with s := L.s.ack ma, r := r5 }, rfl, HV5.out.mono fun k hk => by have : w3.heap.size ≤ k := hk; omega, RLifeAt.of hep (.inl hp) (HM5.out.keep HB3.out np3) (HS3.out.clip.keep HM5.out fun k h1 h2 => (H6.out k h1.1).2.2 h2) HR5.out (fun k hk _ => ⟨.inl (H6.out k hk.1).1.1, (H6.out k hk.1).2.1, fun h => ?_⟩) (fun k hk _ => ?_), by unfold RLife.abs; rw [← HRC.out], rfl, hn5, ?_⟩
    · rcases h with h | h
      · exact (H6.out k hk.1).2.2 h
      · have : w3.heap.size ≤ k := h
        have := (H6.out k hk.1).1.2
        omega
    · rcases hk with hk | hk
      · exact ⟨.inl (H7.out k hk).1.1, (H7.out k hk).2⟩
      · have : w3.heap.size ≤ k := hk
        exact ⟨.inr (by omega), by omega⟩
    · exact (HM.out.mono (G := f) fun _ f => f.elim).trans ((HM3.out.mono (G := f) fun k hk => .inl (H6.out k hk).1.1).trans HM5.out fun k hk => .inl (H7.out k hk).1.1) fun k hk => .inl hk
  · have hkq : (mk == 2) = false := by simpa using hk
    have E1 : Hid (L.abs.hear ⟨mn, mu, me, mk, ma, ms, mb⟩ = ([], { L.abs with out := (L.s.ack ma).snd })) := Lib.hid (by unfold Life.hear; rw [if_neg hk, ← HSN.out]; rfl)
    have hk' : ¬ mk = 2 := hk
    go_wp2
    go_returns
    rw [E1.out]
    have hsz := HSZ.out
    have h3 := HM3.out.size
    refine ⟨_, rfl, Row.nil _ _ _ _, { L with s := L.s.ack ma }, RLifeAt.of hep (.inl hp) HB3.out HS3.out HR3.out (fun k hk _ => ⟨.inl (H6.out k hk).1.1, (H6.out k hk).2⟩) (fun k hk _ => ⟨.inl (H7.out k hk).1.1, (H7.out k hk).2⟩), rfl, rfl, Nat.le_add_right _ _, ?_⟩
    exact (HM.out.mono (G := f) fun _ f => f.elim).trans (HM3.out.mono (G := f) fun k hk => .inl (H6.out k hk).1.1) fun k hk => .inl hk
end Go.Proofs.Ytidkapanpieflaa
