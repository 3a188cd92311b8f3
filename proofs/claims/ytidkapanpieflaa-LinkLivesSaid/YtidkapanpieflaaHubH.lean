/- (*link.Hub).Hear: contract. -/
import Derived.Test.YtidkapanpieflaaHubB
import Derived.Test.YtidkapanpieflaaSerial
namespace Go.Proofs.Ytidkapanpieflaa
open Go.RowKit
set_option linter.unusedVariables false
set_option linter.unusedSimpArgs false
def MsgV.refuse (m : MsgV) : MsgV := ⟨m.node, false, m.epoch, 3, 0, 0, ⟨#[]⟩⟩
def hubNew (l : List Life) (m : MsgV) : Bool × List ByteArray × List MsgV × List Life :=
  (true, ((Life.fresh m.node false m.epoch).hear m).1, [], hput Life.node l ((Life.fresh m.node false m.epoch).hear m).2)
/-- what a hub is told -/
def hubHear (l : List Life) (G : Int → Option Int) (m : MsgV) : Bool × List ByteArray × List MsgV × List Life :=
  if m.up = false ∨ (m.kind ≠ 1 ∧ m.kind ≠ 2) then (false, [], [], l)
  else if (G m.node).any (fun e => !decide (0 < Sr.gap e m.epoch)) = true then (false, [], [m.refuse], l)
  else match hfind Life.node l m.node with
    | none => hubNew l m
    | some L => if 0 < Sr.gap L.epoch m.epoch then hubNew l m else if L.epoch ≠ m.epoch then (false, [], [], l) else (false, (L.hear m).1, [], hput Life.node l (L.hear m).2)
theorem Life.hear_node (L : Life) (m : MsgV) : (L.hear m).2.node = L.node := by unfold Life.hear; split <;> rfl
/-- how a hub ends that has heard -/
def HearEnd (w w' : World) (f : Nat → Prop) (hb : Nat) (G : Int → Option Int) (e : Ending) (r : Bool × List ByteArray × List MsgV × List Life) : Prop :=
  ∃ v1 v2, e = .returned (.tuple #[.bool r.1, v1, v2]) ∧ Row w' (fun k => w.heap.size ≤ k) 9 1 v1 r.2.1.length (r.2.1.map .string) ∧ Row w' (fun k => w.heap.size ≤ k) 65 7 v2 r.2.2.1.length (MsgV.vals r.2.2.1) ∧ HubAt w' (fun k => f k ∨ w.heap.size ≤ k) hb r.2.2.2 G ∧ Mod f w w'
theorem hear_none {w w' : World} {f : Nat → Prop} {hb : Nat} {G : Int → Option Int} {l : List Life} (h : HubAt w f hb l G) (hm : Mod (fun _ => False) w w') : HearEnd w w' f hb G (.returned (.tuple #[.bool false, .slice none 0 0, .slice none 0 0])) (false, [], [], l) :=
  ⟨_, _, rfl, Row.nil _ _ _ _, Row.nil _ _ _ _, (h.keep hm fun _ _ f => f).mono fun k hk _ => .inl hk, hm.mono fun _ f => f.elim⟩
set_option maxRecDepth 100000 in
set_option maxHeartbeats 4000000 in
theorem HHear_any {w : World} {f : Nat → Prop} {hb : Nat} {l : List Life} {G : Int → Option Int} (h : HubAt w f hb l G) (m : MsgV) (hok : m.Ok) :
    Calls Try.prog 55 #[.pointer (some ⟨hb, 0, none⟩), .agg m.cells] w fun e w' => HearEnd w w' f hb G e (hubHear l G m) := by
  have HAT := Lib.hid h
  obtain ⟨km, gm, vbo, c, h, hcf⟩ := h
  obtain ⟨mn, mu, me, mk, ma, ms, mb⟩ := m
  obtain ⟨M, hM⟩ : ∃ M : MsgV, M = ⟨mn, mu, me, mk, ma, ms, mb⟩ := ⟨_, rfl⟩
  have he0 : 0 ≤ me := hok.e0
  have he1 : me < 4294967296 := hok.e1
  have hrgm : -9223372036854775808 ≤ mn ∧ mn < 9223372036854775808 := ⟨hok.n0, by have := hok.n1; simp at this; omega⟩
  rw [← hM]
  have hcells : M.cells = #[.int .i64 mn, .bool mu, .int .u32 me, .int .i64 mk, .int .u32 ma, .int .u32 ms, .string mb] := by rw [hM]; rfl
  rw [hcells]
  have HCS := Lib.hid hcells
  have HOK : Hid M.Ok := Lib.hid (hM ▸ hok)
  have HMM := Lib.hid hM
  have HRG := Lib.hid hrgm
  have HC := Lib.hid hcf
  clear hok hM hcells hrgm hcf
  by_cases hd : mu = false ∨ (mk ≠ 1 ∧ mk ≠ 2)
  · have HD : Hid (hubHear l G M = (false, [], [], l)) := Lib.hid (by unfold hubHear; rw [HMM.out, if_pos hd])
    clear h
    have fin : ∀ W, Mod (fun _ => False) w W → HearEnd w W f hb G (.returned (.tuple #[.bool false, .slice none 0 0, .slice none 0 0])) (hubHear l G M) := fun W hm => by rw [HD.out]; exact hear_none HAT.out hm
    have FIN := Lib.hid fin
    clear fin
    cases mu with
    | false =>
      clear hd
      go_enter Try.func55, Try.ntmps55
      go_wp2
      go_ret3
      exact FIN.out _ ((Mod.refl _ _).alloc _)
    | true =>
      have hd1 : (mk != 1) = true := by rcases hd with h | h <;> simp_all
      have hd2 : (mk != 2) = true := by rcases hd with h | h <;> simp_all
      clear hd
      go_enter Try.func55, Try.ntmps55
      go_wp2
      go_ret3
      exact FIN.out _ ((Mod.refl _ _).alloc _)
  · have hmu : mu = true := by cases mu <;> simp_all
    subst hmu
    have hk12 : mk = 1 ∨ mk = 2 := by
      by_cases h1 : mk = 1
      · exact .inl h1
      · by_cases h2 : mk = 2
        · exact .inr h2
        · exact absurd (.inr ⟨h1, h2⟩) hd
    have c0 := h.top.cell (j := 0) rfl
    have c1 := h.top.cell (j := 1) rfl
    have HH := Lib.hid h
    have HND : Hid (¬ (M.up = false ∨ (M.kind ≠ 1 ∧ M.kind ≠ 2))) := Lib.hid (by rw [HMM.out]; exact hd)
    have hd1 : (mk != 1) = true → (mk != 2) = false := by rcases hk12 with rfl | rfl <;> simp
    have hdd : ((mk != 1) = false) ∨ ((mk != 1) = true ∧ (mk != 2) = false) := by rcases hk12 with rfl | rfl <;> simp
    clear h hd hk12 hd1
    go_enter Try.func55, Try.ntmps55
    rcases hdd with hd1 | ⟨hd1, hd2⟩
    all_goals
      go_wp2_with fail
      obtain ⟨wA, hwA⟩ : ∃ wA, wA = w.alloc (.cells #[.int .i64 mn, .bool true, .int .u32 me, .int .i64 mk, .int .u32 ma, .int .u32 ms, .string mb] 65) := ⟨_, rfl⟩
      have hbA : Blk wA w.heap.size 65 [.int .i64 mn, .bool true, .int .u32 me, .int .i64 mk, .int .u32 ma, .int .u32 ms, .string mb] := hwA ▸ allocNew w _
      have hm : Mod (fun _ => False) w wA := hwA ▸ (Mod.refl _ _).alloc _
      have hsz : wA.heap.size = w.heap.size + 1 := by rw [hwA]; simp
      rw [← hwA]
      obtain ⟨pb, hpb⟩ : ∃ pb, pb = w.heap.size := ⟨_, rfl⟩
      rw [← hpb] at hbA ⊢
      have HPB := Lib.hid hbA
      have HM := Lib.hid hm
      have HPE := Lib.hid hpb
      have HSZ := Lib.hid hsz
      have hS : wA.drew.cell? ⟨hb, 1, none⟩ = some (.map (some gm)) ∧ wA.drew.cell? ⟨pb, 0, none⟩ = some (.int .i64 mn) ∧ KM wA.drew gm (GV G) := ⟨hm.cell (fun f => f) c1, hbA.cell rfl, (HH.out.gn.keep hm fun f => f).keep (Mod.refl (fun _ => False) _).drew fun f => f⟩
      have c0 := hm.cell (fun f => f) c0
      clear hm hbA hwA c1 hpb hsz
      cases hg : G mn with
      | none =>
        have HG : Hid ((M.node = mn ∧ M.epoch = me) ∧ ¬ (G M.node).any (fun e => !decide (0 < Sr.gap e M.epoch)) = true) := Lib.hid (by rw [HMM.out]; exact ⟨⟨rfl, rfl⟩, by rw [show (⟨mn, true, me, mk, ma, ms, mb⟩ : MsgV).node = mn from rfl, hg]; simp⟩)
        have HGV : Hid ((GV G mn) = none) := Lib.hid (by unfold GV; rw [hg]; rfl)
        clear hg
        refine wp_region_plan [] [(0, 0), (1, 0), (2, 0), (3, 1), (4, 0), (5, 1), (6, 1), (7, 0), (8, 0), (9, 0), (10, 0), (11, 0)] (fun w' : World => w'.cell? ⟨hb, 1, none⟩ = some (.map (some gm)) ∧ w'.cell? ⟨pb, 0, none⟩ = some (.int .i64 mn) ∧ KM w' gm (GV G)) (by kernel_rfl) (by kernel_rfl) (fun d _ _ _ _ h => by cases d <;> exact h) ?_
        repeat (first | (refine plan_skip rfl rfl ?_; simp only [List.getElem_toArray, List.getElem_cons_succ, List.getElem_cons_zero, Act.put, List.setIfInBounds_toArray, List.set_cons_zero, List.set_cons_succ]) | (refine plan_pass2 rfl rfl ?_; simp only [List.getElem_toArray, List.getElem_cons_succ, List.getElem_cons_zero, Act.put, List.setIfInBounds_toArray, List.set_cons_zero, List.set_cons_succ]) | (refine plan_pass3 rfl rfl ?_; simp only [List.getElem_toArray, List.getElem_cons_succ, List.getElem_cons_zero, Act.put, List.setIfInBounds_toArray, List.set_cons_zero, List.set_cons_succ]) | (refine plan_take (v := ?_) rfl rfl ?_ ?_; rotate_left; (focus (intro w0; go_simp; try with_reducible rfl)); simp only [List.getElem_toArray, List.getElem_cons_succ, List.getElem_cons_zero, Act.put, List.setIfInBounds_toArray, List.set_cons_zero, List.set_cons_succ]) | (refine plan_held (v := ?_) rfl rfl hS ?_ ?_; rotate_left; (focus (intro w0 hSw; (try dsimp only at hSw); go_split_ands; go_simp; try with_reducible rfl)); simp only [List.getElem_toArray, List.getElem_cons_succ, List.getElem_cons_zero, Act.put, List.setIfInBounds_toArray, List.set_cons_zero, List.set_cons_succ])  | (refine plan_skip1 rfl rfl hS ?_; simp only [List.getElem_toArray, List.getElem_cons_succ, List.getElem_cons_zero, Act.put, List.setIfInBounds_toArray, List.set_cons_zero, List.set_cons_succ]))
        (refine plan_held (v := .tuple #[.int .u32 0, .bool false]) rfl rfl hS (fun w0 h0 => by rw [h0.2.2.exec_lookup (P := Try.prog) Try.underlying113 Try.underlying3 zeroU32 rfl rfl rfl, HGV.out]; rfl) ?_; try simp only [List.getElem_toArray, List.getElem_cons_succ, List.getElem_cons_zero, Act.put, List.setIfInBounds_toArray, List.set_cons_zero, List.set_cons_succ])
        repeat (first | (refine plan_skip rfl rfl ?_; simp only [List.getElem_toArray, List.getElem_cons_succ, List.getElem_cons_zero, Act.put, List.setIfInBounds_toArray, List.set_cons_zero, List.set_cons_succ]) | (refine plan_pass2 rfl rfl ?_; simp only [List.getElem_toArray, List.getElem_cons_succ, List.getElem_cons_zero, Act.put, List.setIfInBounds_toArray, List.set_cons_zero, List.set_cons_succ]) | (refine plan_pass3 rfl rfl ?_; simp only [List.getElem_toArray, List.getElem_cons_succ, List.getElem_cons_zero, Act.put, List.setIfInBounds_toArray, List.set_cons_zero, List.set_cons_succ]) | (refine plan_take (v := ?_) rfl rfl ?_ ?_; rotate_left; (focus (intro w0; go_simp; try with_reducible rfl)); simp only [List.getElem_toArray, List.getElem_cons_succ, List.getElem_cons_zero, Act.put, List.setIfInBounds_toArray, List.set_cons_zero, List.set_cons_succ]) | (refine plan_held (v := ?_) rfl rfl hS ?_ ?_; rotate_left; (focus (intro w0 hSw; (try dsimp only at hSw); go_split_ands; go_simp; try with_reducible rfl)); simp only [List.getElem_toArray, List.getElem_cons_succ, List.getElem_cons_zero, Act.put, List.setIfInBounds_toArray, List.set_cons_zero, List.set_cons_succ])  | (refine plan_skip1 rfl rfl hS ?_; simp only [List.getElem_toArray, List.getElem_cons_succ, List.getElem_cons_zero, Act.put, List.setIfInBounds_toArray, List.set_cons_zero, List.set_cons_succ]))
        refine plan_nil ?_
        go_wp2_with fail

        have hlt6 : KM wA.drew.drew km (KV vbo l) := HH.out.kn.keep (HM.out.drew.drew) fun f => f
        have hS6 : wA.drew.drew.cell? ⟨hb, 0, none⟩ = some (.map (some km)) ∧ wA.drew.drew.cell? ⟨pb, 0, none⟩ = some (.int .i64 mn) ∧ KM wA.drew.drew km (KV vbo l) := ⟨c0, HPB.out.cell rfl, hlt6⟩
        clear hS hlt6
        cases hn : hfind Life.node l mn with
        | none =>
          have HE : Hid (hubHear l G M = hubNew l M) := Lib.hid (by unfold hubHear; rw [if_neg HND.out, if_neg HG.out.2, HG.out.1.1, hn])
          have HKV : Hid ((KV vbo l mn).getD (.pointer none) = .pointer none) := Lib.hid (by unfold KV; rw [hn]; rfl)
          clear hn
          refine wp_region_plan [] [(0, 0), (1, 0), (2, 0), (3, 1), (4, 0), (5, 1), (6, 1), (7, 0)] (fun w' : World => w'.cell? ⟨hb, 0, none⟩ = some (.map (some km)) ∧ w'.cell? ⟨pb, 0, none⟩ = some (.int .i64 mn) ∧ KM w' km (KV vbo l)) (by kernel_rfl) (by kernel_rfl) (fun d _ _ _ _ h => by cases d <;> exact h) ?_
          repeat (first | (refine plan_skip rfl rfl ?_; simp only [List.getElem_toArray, List.getElem_cons_succ, List.getElem_cons_zero, Act.put, List.setIfInBounds_toArray, List.set_cons_zero, List.set_cons_succ]) | (refine plan_pass2 rfl rfl ?_; simp only [List.getElem_toArray, List.getElem_cons_succ, List.getElem_cons_zero, Act.put, List.setIfInBounds_toArray, List.set_cons_zero, List.set_cons_succ]) | (refine plan_pass3 rfl rfl ?_; simp only [List.getElem_toArray, List.getElem_cons_succ, List.getElem_cons_zero, Act.put, List.setIfInBounds_toArray, List.set_cons_zero, List.set_cons_succ]) | (refine plan_take (v := ?_) rfl rfl ?_ ?_; rotate_left; (focus (intro w0; go_simp; try with_reducible rfl)); simp only [List.getElem_toArray, List.getElem_cons_succ, List.getElem_cons_zero, Act.put, List.setIfInBounds_toArray, List.set_cons_zero, List.set_cons_succ]) | (refine plan_held (v := ?_) rfl rfl hS6 ?_ ?_; rotate_left; (focus (intro w0 hSw; (try dsimp only at hSw); go_split_ands; go_simp; try with_reducible rfl)); simp only [List.getElem_toArray, List.getElem_cons_succ, List.getElem_cons_zero, Act.put, List.setIfInBounds_toArray, List.set_cons_zero, List.set_cons_succ])  | (refine plan_skip1 rfl rfl hS6 ?_; simp only [List.getElem_toArray, List.getElem_cons_succ, List.getElem_cons_zero, Act.put, List.setIfInBounds_toArray, List.set_cons_zero, List.set_cons_succ]))
          (refine plan_held (v := .pointer none) rfl rfl hS6 (fun w0 h0 => by rw [h0.2.2.exec_lookup (P := Try.prog) Try.underlying112 Try.underlying3 zeroLife rfl rfl rfl]; simp only [Bool.false_eq_true, if_false]; rw [HKV.out]) ?_; try simp only [List.getElem_toArray, List.getElem_cons_succ, List.getElem_cons_zero, Act.put, List.setIfInBounds_toArray, List.set_cons_zero, List.set_cons_succ])
          repeat (first | (refine plan_skip rfl rfl ?_; simp only [List.getElem_toArray, List.getElem_cons_succ, List.getElem_cons_zero, Act.put, List.setIfInBounds_toArray, List.set_cons_zero, List.set_cons_succ]) | (refine plan_pass2 rfl rfl ?_; simp only [List.getElem_toArray, List.getElem_cons_succ, List.getElem_cons_zero, Act.put, List.setIfInBounds_toArray, List.set_cons_zero, List.set_cons_succ]) | (refine plan_pass3 rfl rfl ?_; simp only [List.getElem_toArray, List.getElem_cons_succ, List.getElem_cons_zero, Act.put, List.setIfInBounds_toArray, List.set_cons_zero, List.set_cons_succ]) | (refine plan_take (v := ?_) rfl rfl ?_ ?_; rotate_left; (focus (intro w0; go_simp; try with_reducible rfl)); simp only [List.getElem_toArray, List.getElem_cons_succ, List.getElem_cons_zero, Act.put, List.setIfInBounds_toArray, List.set_cons_zero, List.set_cons_succ]) | (refine plan_held (v := ?_) rfl rfl hS6 ?_ ?_; rotate_left; (focus (intro w0 hSw; (try dsimp only at hSw); go_split_ands; go_simp; try with_reducible rfl)); simp only [List.getElem_toArray, List.getElem_cons_succ, List.getElem_cons_zero, Act.put, List.setIfInBounds_toArray, List.set_cons_zero, List.set_cons_succ])  | (refine plan_skip1 rfl rfl hS6 ?_; simp only [List.getElem_toArray, List.getElem_cons_succ, List.getElem_cons_zero, Act.put, List.setIfInBounds_toArray, List.set_cons_zero, List.set_cons_succ]))
          refine plan_nil ?_
          clear hS6
          go_wp2_with fail
          refine wp_region_plan [9] [(0, 0), (1, 0), (2, 0), (3, 0), (4, 0), (5, 0), (6, 1), (7, 0), (8, 1), (9, 3), (10, 0), (11, 0)] (fun w' : World => True) (by kernel_rfl) (by kernel_rfl) (fun d _ _ _ _ h => by cases d <;> exact h) ?_
          repeat (first | (refine plan_skip rfl rfl ?_; simp only [List.getElem_toArray, List.getElem_cons_succ, List.getElem_cons_zero, Act.put, List.setIfInBounds_toArray, List.set_cons_zero, List.set_cons_succ]) | (refine plan_pass2 rfl rfl ?_; simp only [List.getElem_toArray, List.getElem_cons_succ, List.getElem_cons_zero, Act.put, List.setIfInBounds_toArray, List.set_cons_zero, List.set_cons_succ]) | (refine plan_pass3 rfl rfl ?_; simp only [List.getElem_toArray, List.getElem_cons_succ, List.getElem_cons_zero, Act.put, List.setIfInBounds_toArray, List.set_cons_zero, List.set_cons_succ]) | (refine plan_take (v := ?_) rfl rfl ?_ ?_; rotate_left; (focus (intro w0; go_simp; try with_reducible rfl)); simp only [List.getElem_toArray, List.getElem_cons_succ, List.getElem_cons_zero, Act.put, List.setIfInBounds_toArray, List.set_cons_zero, List.set_cons_succ]) | (refine plan_held (v := ?_) rfl rfl trivial ?_ ?_; rotate_left; (focus (intro w0 hSw; (try dsimp only at hSw); go_split_ands; go_simp; try with_reducible rfl)); simp only [List.getElem_toArray, List.getElem_cons_succ, List.getElem_cons_zero, Act.put, List.setIfInBounds_toArray, List.set_cons_zero, List.set_cons_succ])  | (refine plan_skip1 rfl rfl trivial ?_; simp only [List.getElem_toArray, List.getElem_cons_succ, List.getElem_cons_zero, Act.put, List.setIfInBounds_toArray, List.set_cons_zero, List.set_cons_succ]))
          refine plan_nil ?_
          have kb0 : wA.drew.drew.drew.cell? ⟨pb, 0, none⟩ = some (.int .i64 mn) := HPB.out.cell rfl
          have kb2 : wA.drew.drew.drew.cell? ⟨pb, 2, none⟩ = some (.int .u32 me) := HPB.out.cell rfl
          go_wp2_with fail
          clear kb0 kb2
          -- a life begins
          have hrm := HRG.out
          refine (fresh_any mn false me _ he0 he1).mono ?_; rintro e w3 ⟨p, rfl, hl3, hm3⟩
          have HL3 := Lib.hid hl3
          have HM3 := Lib.hid (((HM.out.drew.drew).drew).trans hm3 fun _ f => f.elim)
          have hpl : wA.heap.size ≤ p := hl3.2.1
          have HPL := Lib.hid hpl
          have HPB3 := Lib.hid (Blk.keep (HPB.out) (((Mod.refl (fun _ => False) wA).drew.drew.drew).trans hm3 fun _ f => f.elim) fun f => f)
          have hS10 : w3.drew.cell? ⟨hb, 0, none⟩ = some (.map (some km)) ∧ w3.drew.cell? ⟨pb, 0, none⟩ = some (.int .i64 mn) := ⟨hm3.cell (fun f => f) c0, HPB3.out.cell rfl⟩
          have HK3 := Lib.hid ((HH.out.kn.keep HM3.out fun f => f).keep (Mod.refl (fun _ => False) _).drew fun f => f)
          clear hl3 hm3 hpl
          go_wp2_with fail
          refine wp_region_plan [7] [(0, 0), (1, 0), (2, 0), (3, 1), (4, 0), (5, 1), (6, 0), (7, 3)] (fun w' : World => w'.cell? ⟨hb, 0, none⟩ = some (.map (some km)) ∧ w'.cell? ⟨pb, 0, none⟩ = some (.int .i64 mn)) (by kernel_rfl) (by kernel_rfl) (fun d _ _ _ _ h => by cases d <;> exact h) ?_
          repeat (first | (refine plan_skip rfl rfl ?_; simp only [List.getElem_toArray, List.getElem_cons_succ, List.getElem_cons_zero, Act.put, List.setIfInBounds_toArray, List.set_cons_zero, List.set_cons_succ]) | (refine plan_pass2 rfl rfl ?_; simp only [List.getElem_toArray, List.getElem_cons_succ, List.getElem_cons_zero, Act.put, List.setIfInBounds_toArray, List.set_cons_zero, List.set_cons_succ]) | (refine plan_pass3 rfl rfl ?_; simp only [List.getElem_toArray, List.getElem_cons_succ, List.getElem_cons_zero, Act.put, List.setIfInBounds_toArray, List.set_cons_zero, List.set_cons_succ]) | (refine plan_take (v := ?_) rfl rfl ?_ ?_; rotate_left; (focus (intro w0; go_simp; try with_reducible rfl)); simp only [List.getElem_toArray, List.getElem_cons_succ, List.getElem_cons_zero, Act.put, List.setIfInBounds_toArray, List.set_cons_zero, List.set_cons_succ]) | (refine plan_held (v := ?_) rfl rfl hS10 ?_ ?_; rotate_left; (focus (intro w0 hSw; (try dsimp only at hSw); go_split_ands; go_simp; try with_reducible rfl)); simp only [List.getElem_toArray, List.getElem_cons_succ, List.getElem_cons_zero, Act.put, List.setIfInBounds_toArray, List.set_cons_zero, List.set_cons_succ])  | (refine plan_skip1 rfl rfl hS10 ?_; simp only [List.getElem_toArray, List.getElem_cons_succ, List.getElem_cons_zero, Act.put, List.setIfInBounds_toArray, List.set_cons_zero, List.set_cons_succ]))
          (refine plan_end rfl rfl rfl fun K hK => ?_; (try simp only [List.getElem_toArray, List.getElem_cons_succ, List.getElem_cons_zero]))
          refine wp_update_km (P := Try.prog) Try.underlying112 Try.underlying3 rfl (k := mn) (v := .pointer (some ⟨p, 0, none⟩)) rfl rfl rfl HK3.out ?_
          intro w4 HK4 HM4
          refine hK _ _ ?_
          clear hK K
          try simp only [List.getElem_toArray, List.getElem_cons_succ, List.getElem_cons_zero, Act.put, List.setIfInBounds_toArray, List.set_cons_zero, List.set_cons_succ]
          repeat (first | (refine plan_skip rfl rfl ?_; simp only [List.getElem_toArray, List.getElem_cons_succ, List.getElem_cons_zero, Act.put, List.setIfInBounds_toArray, List.set_cons_zero, List.set_cons_succ]) | (refine plan_pass2 rfl rfl ?_; simp only [List.getElem_toArray, List.getElem_cons_succ, List.getElem_cons_zero, Act.put, List.setIfInBounds_toArray, List.set_cons_zero, List.set_cons_succ]) | (refine plan_pass3 rfl rfl ?_; simp only [List.getElem_toArray, List.getElem_cons_succ, List.getElem_cons_zero, Act.put, List.setIfInBounds_toArray, List.set_cons_zero, List.set_cons_succ]) | (refine plan_take (v := ?_) rfl rfl ?_ ?_; rotate_left; (focus (intro w0; go_simp; try with_reducible rfl)); simp only [List.getElem_toArray, List.getElem_cons_succ, List.getElem_cons_zero, Act.put, List.setIfInBounds_toArray, List.set_cons_zero, List.set_cons_succ]) | fail )
          refine plan_nil ?_
          have HM34 := Lib.hid (Mod.ofDrew HM4.out)
          have hkl := HH.out.kn.lt
          have HKL := Lib.hid hkl
          have HPB4 := Lib.hid (HPB3.out.keep HM34.out (show ¬ pb = km by have := HPE.out; omega))
          have HL4 := Lib.hid (HL3.out.keep HM34.out fun k hk => show ¬ k = km by have hk2 : wA.heap.size ≤ k := hk; have := HSZ.out; omega)
          clear hS10 hkl
          have kq0 := HPB4.out.cell (j := 0) rfl
          have kq1 := HPB4.out.cell (j := 1) rfl
          have kq2 := HPB4.out.cell (j := 2) rfl
          have kq3 := HPB4.out.cell (j := 3) rfl
          have kq4 := HPB4.out.cell (j := 4) rfl
          have kq5 := HPB4.out.cell (j := 5) rfl
          have kq6 := HPB4.out.cell (j := 6) rfl
          go_wp2_with fail
          clear kq0 kq1 kq2 kq3 kq4 kq5 kq6
          rw [← HCS.out]
          refine (hear_any p _ _ M _ HL4.out HOK.out).mono ?_; rintro e w5 ⟨v5, rfl, hv5, hl5, hm5⟩
          have HV5 := Lib.hid hv5
          have HL5 := Lib.hid hl5
          have HM5 := Lib.hid hm5
          clear hv5 hl5 hm5
          go_wp2
          go_ret3
          have hs3 := HM3.out.size
          have hs4 := HM34.out.size
          have hsz := HSZ.out
          have hkl := HKL.out
          have hmt : Mod (fun k => k = km) w w5 := ((HM3.out.mono (G := fun k => k = km) fun _ f => f.elim).trans HM34.out fun k hk => .inl hk).trans HM5.out fun k hk => .inr (by have : wA.heap.size ≤ k := hk; omega)
          have hnd : ((Life.fresh mn false me).hear M).2.node = mn := Life.hear_node _ _
          have hlife : LifeAt w5 p (fun k => c k = .inl ((Life.fresh mn false me).hear M).2.node ∨ w.heap.size ≤ k) ((Life.fresh mn false me).hear M).2 := HL5.out.mono fun k hk _ => .inr (by
            rcases hk with hk | hk
            · have : wA.heap.size ≤ k := hk; omega
            · omega)
          have hput := HH.out.put hmt (x := ((Life.fresh mn false me).hear M).2) (vb := p) (by rw [hnd]; exact HRG.out) (fun k hk => .inr (by rw [hk]; exact HH.out.f1)) hlife (by rw [hnd]; exact HK4.out.keep HM5.out (show ¬ wA.heap.size ≤ km by omega))
          rw [HE.out]
          unfold hubNew
          rw [HG.out.1.1, HG.out.1.2]
          exact ⟨_, _, rfl, HV5.out.mono fun k hk => by have hk2 : w4.heap.size ≤ k := hk; show w.heap.size ≤ k; omega, Row.nil _ _ _ _, ⟨km, gm, _, _, hput, fun k hk => by
            by_cases hl : w.heap.size ≤ k
            · exact .inr hl
            · rw [dyed_old (by omega)] at hk; exact .inl (HC.out k hk)⟩, hmt.mono fun k hk => .inl (HC.out k (by rw [hk, HH.out.f1]; decide))⟩

        | some L =>
          have hne := eql_life (vbo mn)
          obtain ⟨hLn, hL⟩ := HH.out.life hn
          have d2 : wA.drew.drew.drew.cell? ⟨vbo mn, 2, none⟩ = some (.int .u32 L.epoch) := by
            obtain ⟨po, fs, d0, d2, _⟩ := hL.sub
            exact HM.out.cell (fun f => f) d2
          have HN := Lib.hid hn
          have HLN := Lib.hid hLn
          have HKV : Hid ((KV vbo l mn).getD (.pointer none) = .pointer (some ⟨vbo mn, 0, none⟩)) := Lib.hid (by unfold KV ptrV; rw [hn]; rfl)
          have hS7 : wA.drew.drew.drew.cell? ⟨vbo mn, 2, none⟩ = some (.int .u32 L.epoch) ∧ wA.drew.drew.drew.cell? ⟨pb, 2, none⟩ = some (.int .u32 me) := ⟨d2, HPB.out.cell rfl⟩
          clear hn hL hLn d2
          refine wp_region_plan [] [(0, 0), (1, 0), (2, 0), (3, 1), (4, 0), (5, 1), (6, 1), (7, 0)] (fun w' : World => w'.cell? ⟨hb, 0, none⟩ = some (.map (some km)) ∧ w'.cell? ⟨pb, 0, none⟩ = some (.int .i64 mn) ∧ KM w' km (KV vbo l)) (by kernel_rfl) (by kernel_rfl) (fun d _ _ _ _ h => by cases d <;> exact h) ?_
          repeat (first | (refine plan_skip rfl rfl ?_; simp only [List.getElem_toArray, List.getElem_cons_succ, List.getElem_cons_zero, Act.put, List.setIfInBounds_toArray, List.set_cons_zero, List.set_cons_succ]) | (refine plan_pass2 rfl rfl ?_; simp only [List.getElem_toArray, List.getElem_cons_succ, List.getElem_cons_zero, Act.put, List.setIfInBounds_toArray, List.set_cons_zero, List.set_cons_succ]) | (refine plan_pass3 rfl rfl ?_; simp only [List.getElem_toArray, List.getElem_cons_succ, List.getElem_cons_zero, Act.put, List.setIfInBounds_toArray, List.set_cons_zero, List.set_cons_succ]) | (refine plan_take (v := ?_) rfl rfl ?_ ?_; rotate_left; (focus (intro w0; go_simp; try with_reducible rfl)); simp only [List.getElem_toArray, List.getElem_cons_succ, List.getElem_cons_zero, Act.put, List.setIfInBounds_toArray, List.set_cons_zero, List.set_cons_succ]) | (refine plan_held (v := ?_) rfl rfl hS6 ?_ ?_; rotate_left; (focus (intro w0 hSw; (try dsimp only at hSw); go_split_ands; go_simp; try with_reducible rfl)); simp only [List.getElem_toArray, List.getElem_cons_succ, List.getElem_cons_zero, Act.put, List.setIfInBounds_toArray, List.set_cons_zero, List.set_cons_succ])  | (refine plan_skip1 rfl rfl hS6 ?_; simp only [List.getElem_toArray, List.getElem_cons_succ, List.getElem_cons_zero, Act.put, List.setIfInBounds_toArray, List.set_cons_zero, List.set_cons_succ]))
          (refine plan_held (v := .pointer (some ⟨vbo mn, 0, none⟩)) rfl rfl hS6 (fun w0 h0 => by rw [h0.2.2.exec_lookup (P := Try.prog) Try.underlying112 Try.underlying3 zeroLife rfl rfl rfl]; simp only [Bool.false_eq_true, if_false]; rw [HKV.out]) ?_; try simp only [List.getElem_toArray, List.getElem_cons_succ, List.getElem_cons_zero, Act.put, List.setIfInBounds_toArray, List.set_cons_zero, List.set_cons_succ])
          repeat (first | (refine plan_skip rfl rfl ?_; simp only [List.getElem_toArray, List.getElem_cons_succ, List.getElem_cons_zero, Act.put, List.setIfInBounds_toArray, List.set_cons_zero, List.set_cons_succ]) | (refine plan_pass2 rfl rfl ?_; simp only [List.getElem_toArray, List.getElem_cons_succ, List.getElem_cons_zero, Act.put, List.setIfInBounds_toArray, List.set_cons_zero, List.set_cons_succ]) | (refine plan_pass3 rfl rfl ?_; simp only [List.getElem_toArray, List.getElem_cons_succ, List.getElem_cons_zero, Act.put, List.setIfInBounds_toArray, List.set_cons_zero, List.set_cons_succ]) | (refine plan_take (v := ?_) rfl rfl ?_ ?_; rotate_left; (focus (intro w0; go_simp; try with_reducible rfl)); simp only [List.getElem_toArray, List.getElem_cons_succ, List.getElem_cons_zero, Act.put, List.setIfInBounds_toArray, List.set_cons_zero, List.set_cons_succ]) | (refine plan_held (v := ?_) rfl rfl hS6 ?_ ?_; rotate_left; (focus (intro w0 hSw; (try dsimp only at hSw); go_split_ands; go_simp; try with_reducible rfl)); simp only [List.getElem_toArray, List.getElem_cons_succ, List.getElem_cons_zero, Act.put, List.setIfInBounds_toArray, List.set_cons_zero, List.set_cons_succ])  | (refine plan_skip1 rfl rfl hS6 ?_; simp only [List.getElem_toArray, List.getElem_cons_succ, List.getElem_cons_zero, Act.put, List.setIfInBounds_toArray, List.set_cons_zero, List.set_cons_succ]))
          refine plan_nil ?_
          clear hS6
          by_cases hgp : 0 < Sr.gap L.epoch me
          · have HE : Hid (hubHear l G M = hubNew l M) := Lib.hid (by unfold hubHear; rw [if_neg HND.out, if_neg HG.out.2, HG.out.1.1, HN.out, HG.out.1.2]; exact if_pos hgp)
            have hdl : decide (0 < Sr.gap L.epoch me) = true := decide_eq_true hgp
            clear hgp
            go_wp2_with fail
            refine wp_region_plan [9] [(0, 0), (1, 0), (2, 0), (3, 0), (4, 0), (5, 0), (6, 1), (7, 0), (8, 1), (9, 3), (10, 0), (11, 0)] (fun w' : World => w'.cell? ⟨vbo mn, 2, none⟩ = some (.int .u32 L.epoch) ∧ w'.cell? ⟨pb, 2, none⟩ = some (.int .u32 me)) (by kernel_rfl) (by kernel_rfl) (fun d _ _ _ _ h => by cases d <;> exact h) ?_
            repeat (first | (refine plan_skip rfl rfl ?_; simp only [List.getElem_toArray, List.getElem_cons_succ, List.getElem_cons_zero, Act.put, List.setIfInBounds_toArray, List.set_cons_zero, List.set_cons_succ]) | (refine plan_pass2 rfl rfl ?_; simp only [List.getElem_toArray, List.getElem_cons_succ, List.getElem_cons_zero, Act.put, List.setIfInBounds_toArray, List.set_cons_zero, List.set_cons_succ]) | (refine plan_pass3 rfl rfl ?_; simp only [List.getElem_toArray, List.getElem_cons_succ, List.getElem_cons_zero, Act.put, List.setIfInBounds_toArray, List.set_cons_zero, List.set_cons_succ]) | (refine plan_take (v := ?_) rfl rfl ?_ ?_; rotate_left; (focus (intro w0; go_simp; try with_reducible rfl)); simp only [List.getElem_toArray, List.getElem_cons_succ, List.getElem_cons_zero, Act.put, List.setIfInBounds_toArray, List.set_cons_zero, List.set_cons_succ]) | (refine plan_held (v := ?_) rfl rfl hS7 ?_ ?_; rotate_left; (focus (intro w0 hSw; (try dsimp only at hSw); go_split_ands; go_simp; try with_reducible rfl)); simp only [List.getElem_toArray, List.getElem_cons_succ, List.getElem_cons_zero, Act.put, List.setIfInBounds_toArray, List.set_cons_zero, List.set_cons_succ])  | (refine plan_skip1 rfl rfl hS7 ?_; simp only [List.getElem_toArray, List.getElem_cons_succ, List.getElem_cons_zero, Act.put, List.setIfInBounds_toArray, List.set_cons_zero, List.set_cons_succ]))
            (refine plan_end rfl rfl rfl fun K hK => ?_; (try simp only [List.getElem_toArray, List.getElem_cons_succ, List.getElem_cons_zero]))
            go_simp
            refine (Less_any _ _ _).mono ?_; rintro e w' ⟨rfl, rfl⟩
            rw [hdl]
            refine hK _ _ ?_
            clear hK K
            try simp only [List.getElem_toArray, List.getElem_cons_succ, List.getElem_cons_zero, Act.put, List.setIfInBounds_toArray, List.set_cons_zero, List.set_cons_succ]
            repeat (first | (refine plan_skip rfl rfl ?_; simp only [List.getElem_toArray, List.getElem_cons_succ, List.getElem_cons_zero, Act.put, List.setIfInBounds_toArray, List.set_cons_zero, List.set_cons_succ]) | (refine plan_pass2 rfl rfl ?_; simp only [List.getElem_toArray, List.getElem_cons_succ, List.getElem_cons_zero, Act.put, List.setIfInBounds_toArray, List.set_cons_zero, List.set_cons_succ]) | (refine plan_pass3 rfl rfl ?_; simp only [List.getElem_toArray, List.getElem_cons_succ, List.getElem_cons_zero, Act.put, List.setIfInBounds_toArray, List.set_cons_zero, List.set_cons_succ]) | (refine plan_take (v := ?_) rfl rfl ?_ ?_; rotate_left; (focus (intro w0; go_simp; try with_reducible rfl)); simp only [List.getElem_toArray, List.getElem_cons_succ, List.getElem_cons_zero, Act.put, List.setIfInBounds_toArray, List.set_cons_zero, List.set_cons_succ]) | fail )
            refine plan_nil ?_
            have kb0 : wA.drew.drew.drew.cell? ⟨pb, 0, none⟩ = some (.int .i64 mn) := HPB.out.cell rfl
            have kb2 : wA.drew.drew.drew.cell? ⟨pb, 2, none⟩ = some (.int .u32 me) := HPB.out.cell rfl
            clear hS7
            go_wp2_with fail
            clear kb0 kb2
            -- a life begins
            have hrm := HRG.out
            refine (fresh_any mn false me _ he0 he1).mono ?_; rintro e w3 ⟨p, rfl, hl3, hm3⟩
            have HL3 := Lib.hid hl3
            have HM3 := Lib.hid (((HM.out.drew.drew).drew).trans hm3 fun _ f => f.elim)
            have hpl : wA.heap.size ≤ p := hl3.2.1
            have HPL := Lib.hid hpl
            have HPB3 := Lib.hid (Blk.keep (HPB.out) (((Mod.refl (fun _ => False) wA).drew.drew.drew).trans hm3 fun _ f => f.elim) fun f => f)
            have hS10 : w3.drew.cell? ⟨hb, 0, none⟩ = some (.map (some km)) ∧ w3.drew.cell? ⟨pb, 0, none⟩ = some (.int .i64 mn) := ⟨hm3.cell (fun f => f) c0, HPB3.out.cell rfl⟩
            have HK3 := Lib.hid ((HH.out.kn.keep HM3.out fun f => f).keep (Mod.refl (fun _ => False) _).drew fun f => f)
            clear hl3 hm3 hpl
            go_wp2_with fail
            refine wp_region_plan [7] [(0, 0), (1, 0), (2, 0), (3, 1), (4, 0), (5, 1), (6, 0), (7, 3)] (fun w' : World => w'.cell? ⟨hb, 0, none⟩ = some (.map (some km)) ∧ w'.cell? ⟨pb, 0, none⟩ = some (.int .i64 mn)) (by kernel_rfl) (by kernel_rfl) (fun d _ _ _ _ h => by cases d <;> exact h) ?_
            repeat (first | (refine plan_skip rfl rfl ?_; simp only [List.getElem_toArray, List.getElem_cons_succ, List.getElem_cons_zero, Act.put, List.setIfInBounds_toArray, List.set_cons_zero, List.set_cons_succ]) | (refine plan_pass2 rfl rfl ?_; simp only [List.getElem_toArray, List.getElem_cons_succ, List.getElem_cons_zero, Act.put, List.setIfInBounds_toArray, List.set_cons_zero, List.set_cons_succ]) | (refine plan_pass3 rfl rfl ?_; simp only [List.getElem_toArray, List.getElem_cons_succ, List.getElem_cons_zero, Act.put, List.setIfInBounds_toArray, List.set_cons_zero, List.set_cons_succ]) | (refine plan_take (v := ?_) rfl rfl ?_ ?_; rotate_left; (focus (intro w0; go_simp; try with_reducible rfl)); simp only [List.getElem_toArray, List.getElem_cons_succ, List.getElem_cons_zero, Act.put, List.setIfInBounds_toArray, List.set_cons_zero, List.set_cons_succ]) | (refine plan_held (v := ?_) rfl rfl hS10 ?_ ?_; rotate_left; (focus (intro w0 hSw; (try dsimp only at hSw); go_split_ands; go_simp; try with_reducible rfl)); simp only [List.getElem_toArray, List.getElem_cons_succ, List.getElem_cons_zero, Act.put, List.setIfInBounds_toArray, List.set_cons_zero, List.set_cons_succ])  | (refine plan_skip1 rfl rfl hS10 ?_; simp only [List.getElem_toArray, List.getElem_cons_succ, List.getElem_cons_zero, Act.put, List.setIfInBounds_toArray, List.set_cons_zero, List.set_cons_succ]))
            (refine plan_end rfl rfl rfl fun K hK => ?_; (try simp only [List.getElem_toArray, List.getElem_cons_succ, List.getElem_cons_zero]))
            refine wp_update_km (P := Try.prog) Try.underlying112 Try.underlying3 rfl (k := mn) (v := .pointer (some ⟨p, 0, none⟩)) rfl rfl rfl HK3.out ?_
            intro w4 HK4 HM4
            refine hK _ _ ?_
            clear hK K
            try simp only [List.getElem_toArray, List.getElem_cons_succ, List.getElem_cons_zero, Act.put, List.setIfInBounds_toArray, List.set_cons_zero, List.set_cons_succ]
            repeat (first | (refine plan_skip rfl rfl ?_; simp only [List.getElem_toArray, List.getElem_cons_succ, List.getElem_cons_zero, Act.put, List.setIfInBounds_toArray, List.set_cons_zero, List.set_cons_succ]) | (refine plan_pass2 rfl rfl ?_; simp only [List.getElem_toArray, List.getElem_cons_succ, List.getElem_cons_zero, Act.put, List.setIfInBounds_toArray, List.set_cons_zero, List.set_cons_succ]) | (refine plan_pass3 rfl rfl ?_; simp only [List.getElem_toArray, List.getElem_cons_succ, List.getElem_cons_zero, Act.put, List.setIfInBounds_toArray, List.set_cons_zero, List.set_cons_succ]) | (refine plan_take (v := ?_) rfl rfl ?_ ?_; rotate_left; (focus (intro w0; go_simp; try with_reducible rfl)); simp only [List.getElem_toArray, List.getElem_cons_succ, List.getElem_cons_zero, Act.put, List.setIfInBounds_toArray, List.set_cons_zero, List.set_cons_succ]) | fail )
            refine plan_nil ?_
            have HM34 := Lib.hid (Mod.ofDrew HM4.out)
            have hkl := HH.out.kn.lt
            have HKL := Lib.hid hkl
            have HPB4 := Lib.hid (HPB3.out.keep HM34.out (show ¬ pb = km by have := HPE.out; omega))
            have HL4 := Lib.hid (HL3.out.keep HM34.out fun k hk => show ¬ k = km by have hk2 : wA.heap.size ≤ k := hk; have := HSZ.out; omega)
            clear hS10 hkl
            have kq0 := HPB4.out.cell (j := 0) rfl
            have kq1 := HPB4.out.cell (j := 1) rfl
            have kq2 := HPB4.out.cell (j := 2) rfl
            have kq3 := HPB4.out.cell (j := 3) rfl
            have kq4 := HPB4.out.cell (j := 4) rfl
            have kq5 := HPB4.out.cell (j := 5) rfl
            have kq6 := HPB4.out.cell (j := 6) rfl
            go_wp2_with fail
            clear kq0 kq1 kq2 kq3 kq4 kq5 kq6
            rw [← HCS.out]
            refine (hear_any p _ _ M _ HL4.out HOK.out).mono ?_; rintro e w5 ⟨v5, rfl, hv5, hl5, hm5⟩
            have HV5 := Lib.hid hv5
            have HL5 := Lib.hid hl5
            have HM5 := Lib.hid hm5
            clear hv5 hl5 hm5
            go_wp2
            go_ret3
            have hs3 := HM3.out.size
            have hs4 := HM34.out.size
            have hsz := HSZ.out
            have hkl := HKL.out
            have hmt : Mod (fun k => k = km) w w5 := ((HM3.out.mono (G := fun k => k = km) fun _ f => f.elim).trans HM34.out fun k hk => .inl hk).trans HM5.out fun k hk => .inr (by have : wA.heap.size ≤ k := hk; omega)
            have hnd : ((Life.fresh mn false me).hear M).2.node = mn := Life.hear_node _ _
            have hlife : LifeAt w5 p (fun k => c k = .inl ((Life.fresh mn false me).hear M).2.node ∨ w.heap.size ≤ k) ((Life.fresh mn false me).hear M).2 := HL5.out.mono fun k hk _ => .inr (by
              rcases hk with hk | hk
              · have : wA.heap.size ≤ k := hk; omega
              · omega)
            have hput := HH.out.put hmt (x := ((Life.fresh mn false me).hear M).2) (vb := p) (by rw [hnd]; exact HRG.out) (fun k hk => .inr (by rw [hk]; exact HH.out.f1)) hlife (by rw [hnd]; exact HK4.out.keep HM5.out (show ¬ wA.heap.size ≤ km by omega))
            rw [HE.out]
            unfold hubNew
            rw [HG.out.1.1, HG.out.1.2]
            exact ⟨_, _, rfl, HV5.out.mono fun k hk => by have hk2 : w4.heap.size ≤ k := hk; show w.heap.size ≤ k; omega, Row.nil _ _ _ _, ⟨km, gm, _, _, hput, fun k hk => by
              by_cases hl : w.heap.size ≤ k
              · exact .inr hl
              · rw [dyed_old (by omega)] at hk; exact .inl (HC.out k hk)⟩, hmt.mono fun k hk => .inl (HC.out k (by rw [hk, HH.out.f1]; decide))⟩

          · have hdl : decide (0 < Sr.gap L.epoch me) = false := decide_eq_false hgp
            have HGP := Lib.hid hgp
            clear hgp
            go_wp2_with fail
            refine wp_region_plan [9] [(0, 0), (1, 0), (2, 0), (3, 0), (4, 0), (5, 0), (6, 1), (7, 0), (8, 1), (9, 3), (10, 0), (11, 0)] (fun w' : World => w'.cell? ⟨vbo mn, 2, none⟩ = some (.int .u32 L.epoch) ∧ w'.cell? ⟨pb, 2, none⟩ = some (.int .u32 me)) (by kernel_rfl) (by kernel_rfl) (fun d _ _ _ _ h => by cases d <;> exact h) ?_
            repeat (first | (refine plan_skip rfl rfl ?_; simp only [List.getElem_toArray, List.getElem_cons_succ, List.getElem_cons_zero, Act.put, List.setIfInBounds_toArray, List.set_cons_zero, List.set_cons_succ]) | (refine plan_pass2 rfl rfl ?_; simp only [List.getElem_toArray, List.getElem_cons_succ, List.getElem_cons_zero, Act.put, List.setIfInBounds_toArray, List.set_cons_zero, List.set_cons_succ]) | (refine plan_pass3 rfl rfl ?_; simp only [List.getElem_toArray, List.getElem_cons_succ, List.getElem_cons_zero, Act.put, List.setIfInBounds_toArray, List.set_cons_zero, List.set_cons_succ]) | (refine plan_take (v := ?_) rfl rfl ?_ ?_; rotate_left; (focus (intro w0; go_simp; try with_reducible rfl)); simp only [List.getElem_toArray, List.getElem_cons_succ, List.getElem_cons_zero, Act.put, List.setIfInBounds_toArray, List.set_cons_zero, List.set_cons_succ]) | (refine plan_held (v := ?_) rfl rfl hS7 ?_ ?_; rotate_left; (focus (intro w0 hSw; (try dsimp only at hSw); go_split_ands; go_simp; try with_reducible rfl)); simp only [List.getElem_toArray, List.getElem_cons_succ, List.getElem_cons_zero, Act.put, List.setIfInBounds_toArray, List.set_cons_zero, List.set_cons_succ])  | (refine plan_skip1 rfl rfl hS7 ?_; simp only [List.getElem_toArray, List.getElem_cons_succ, List.getElem_cons_zero, Act.put, List.setIfInBounds_toArray, List.set_cons_zero, List.set_cons_succ]))
            (refine plan_end rfl rfl rfl fun K hK => ?_; (try simp only [List.getElem_toArray, List.getElem_cons_succ, List.getElem_cons_zero]))
            go_simp
            refine (Less_any _ _ _).mono ?_; rintro e w' ⟨rfl, rfl⟩
            rw [hdl]
            refine hK _ _ ?_
            clear hK K
            try simp only [List.getElem_toArray, List.getElem_cons_succ, List.getElem_cons_zero, Act.put, List.setIfInBounds_toArray, List.set_cons_zero, List.set_cons_succ]
            repeat (first | (refine plan_skip rfl rfl ?_; simp only [List.getElem_toArray, List.getElem_cons_succ, List.getElem_cons_zero, Act.put, List.setIfInBounds_toArray, List.set_cons_zero, List.set_cons_succ]) | (refine plan_pass2 rfl rfl ?_; simp only [List.getElem_toArray, List.getElem_cons_succ, List.getElem_cons_zero, Act.put, List.setIfInBounds_toArray, List.set_cons_zero, List.set_cons_succ]) | (refine plan_pass3 rfl rfl ?_; simp only [List.getElem_toArray, List.getElem_cons_succ, List.getElem_cons_zero, Act.put, List.setIfInBounds_toArray, List.set_cons_zero, List.set_cons_succ]) | (refine plan_take (v := ?_) rfl rfl ?_ ?_; rotate_left; (focus (intro w0; go_simp; try with_reducible rfl)); simp only [List.getElem_toArray, List.getElem_cons_succ, List.getElem_cons_zero, Act.put, List.setIfInBounds_toArray, List.set_cons_zero, List.set_cons_succ]) | fail )
            refine plan_nil ?_
            by_cases hee : L.epoch = me
            · have hbe : (L.epoch != me) = false := by simp [hee]
              have HE : Hid (hubHear l G M = (false, (L.hear M).1, [], hput Life.node l (L.hear M).2)) := Lib.hid (by unfold hubHear; rw [if_neg HND.out, if_neg HG.out.2, HG.out.1.1, HN.out, HG.out.1.2]; exact (if_neg (show ¬ 0 < Sr.gap L.epoch me from Int.not_lt.2 HGP.out)).trans (if_neg (fun h => h hee)))
              have HEE := Lib.hid hee
              clear hee
              go_wp2_with fail
              refine wp_region_plan [] [(0, 0), (1, 0), (2, 0), (3, 1), (4, 0), (5, 1), (6, 0), (7, 0)] (fun w' : World => w'.cell? ⟨vbo mn, 2, none⟩ = some (.int .u32 L.epoch) ∧ w'.cell? ⟨pb, 2, none⟩ = some (.int .u32 me)) (by kernel_rfl) (by kernel_rfl) (fun d _ _ _ _ h => by cases d <;> exact h) ?_
              repeat (first | (refine plan_skip rfl rfl ?_; simp only [List.getElem_toArray, List.getElem_cons_succ, List.getElem_cons_zero, Act.put, List.setIfInBounds_toArray, List.set_cons_zero, List.set_cons_succ]) | (refine plan_pass2 rfl rfl ?_; simp only [List.getElem_toArray, List.getElem_cons_succ, List.getElem_cons_zero, Act.put, List.setIfInBounds_toArray, List.set_cons_zero, List.set_cons_succ]) | (refine plan_pass3 rfl rfl ?_; simp only [List.getElem_toArray, List.getElem_cons_succ, List.getElem_cons_zero, Act.put, List.setIfInBounds_toArray, List.set_cons_zero, List.set_cons_succ]) | (refine plan_take (v := ?_) rfl rfl ?_ ?_; rotate_left; (focus (intro w0; go_simp; try with_reducible rfl)); simp only [List.getElem_toArray, List.getElem_cons_succ, List.getElem_cons_zero, Act.put, List.setIfInBounds_toArray, List.set_cons_zero, List.set_cons_succ]) | (refine plan_held (v := ?_) rfl rfl hS7 ?_ ?_; rotate_left; (focus (intro w0 hSw; (try dsimp only at hSw); go_split_ands; go_simp; try with_reducible rfl)); simp only [List.getElem_toArray, List.getElem_cons_succ, List.getElem_cons_zero, Act.put, List.setIfInBounds_toArray, List.set_cons_zero, List.set_cons_succ])  | (refine plan_skip1 rfl rfl hS7 ?_; simp only [List.getElem_toArray, List.getElem_cons_succ, List.getElem_cons_zero, Act.put, List.setIfInBounds_toArray, List.set_cons_zero, List.set_cons_succ]))
              try simp only [hbe]
              repeat (first | (refine plan_skip rfl rfl ?_; simp only [List.getElem_toArray, List.getElem_cons_succ, List.getElem_cons_zero, Act.put, List.setIfInBounds_toArray, List.set_cons_zero, List.set_cons_succ]) | (refine plan_pass2 rfl rfl ?_; simp only [List.getElem_toArray, List.getElem_cons_succ, List.getElem_cons_zero, Act.put, List.setIfInBounds_toArray, List.set_cons_zero, List.set_cons_succ]) | (refine plan_pass3 rfl rfl ?_; simp only [List.getElem_toArray, List.getElem_cons_succ, List.getElem_cons_zero, Act.put, List.setIfInBounds_toArray, List.set_cons_zero, List.set_cons_succ]) | (refine plan_take (v := ?_) rfl rfl ?_ ?_; rotate_left; (focus (intro w0; go_simp; try with_reducible rfl)); simp only [List.getElem_toArray, List.getElem_cons_succ, List.getElem_cons_zero, Act.put, List.setIfInBounds_toArray, List.set_cons_zero, List.set_cons_succ]) | (refine plan_held (v := ?_) rfl rfl hS7 ?_ ?_; rotate_left; (focus (intro w0 hSw; (try dsimp only at hSw); go_split_ands; go_simp; try with_reducible rfl)); simp only [List.getElem_toArray, List.getElem_cons_succ, List.getElem_cons_zero, Act.put, List.setIfInBounds_toArray, List.set_cons_zero, List.set_cons_succ])  | (refine plan_skip1 rfl rfl hS7 ?_; simp only [List.getElem_toArray, List.getElem_cons_succ, List.getElem_cons_zero, Act.put, List.setIfInBounds_toArray, List.set_cons_zero, List.set_cons_succ]))
              refine plan_nil ?_
              clear hS7
              have HPB4 : Hid (Blk wA.drew.drew.drew.drew pb 65 [.int .i64 mn, .bool true, .int .u32 me, .int .i64 mk, .int .u32 ma, .int .u32 ms, .string mb]) := Lib.hid HPB.out
              have kq0 := HPB4.out.cell (j := 0) rfl
              have kq1 := HPB4.out.cell (j := 1) rfl
              have kq2 := HPB4.out.cell (j := 2) rfl
              have kq3 := HPB4.out.cell (j := 3) rfl
              have kq4 := HPB4.out.cell (j := 4) rfl
              have kq5 := HPB4.out.cell (j := 5) rfl
              have kq6 := HPB4.out.cell (j := 6) rfl
              go_wp2_with fail
              clear kq0 kq1 kq2 kq3 kq4 kq5 kq6
              rw [← HCS.out]
              have HMD := Lib.hid (HM.out.drew.drew.drew.drew)
              refine (hear_any (vbo mn) (fun k => c k = .inl mn ∧ k < w.heap.size) L M _ (((HH.out.life HN.out).2.mono fun k a b => ⟨a, b⟩).keep HMD.out fun _ _ f => f) HOK.out).mono ?_; rintro e w5 ⟨v5, rfl, hv5, hl5, hm5⟩
              have HV5 := Lib.hid hv5
              have HL5 := Lib.hid hl5
              have HM5 := Lib.hid hm5
              clear hv5 hl5 hm5
              go_wp2
              go_ret3
              rw [HE.out]
              have hsA := HM.out.size
              have hmt : Mod (fun k => c k = .inl mn) w w5 := (HMD.out.mono (G := fun k => c k = .inl mn) fun _ f => f.elim).trans HM5.out fun k hk => .inl hk.1
              have hset := HH.out.set HN.out (L' := (L.hear M).2) ((Life.hear_node L M).trans HLN.out) (HL5.out.mono fun k hk _ => by
                rcases hk with hk | hk
                · exact .inl hk.1
                · have hk2 : wA.heap.size ≤ k := hk; exact .inr (by omega)) hmt
              exact ⟨_, _, rfl, HV5.out.mono fun k hk => by have hk2 : wA.heap.size ≤ k := hk; show w.heap.size ≤ k; omega, Row.nil _ _ _ _, ⟨km, gm, _, _, hset, fun k hk => by
                by_cases hl : w.heap.size ≤ k
                · exact .inr hl
                · rw [dyed_old (by omega)] at hk; exact .inl (HC.out k hk)⟩, hmt.mono fun k hk => .inl (HC.out k (by rw [hk]; simp))⟩
            · have hbe : (L.epoch != me) = true := by simp [hee]
              have HE : Hid (hubHear l G M = (false, [], [], l)) := Lib.hid (by unfold hubHear; rw [if_neg HND.out, if_neg HG.out.2, HG.out.1.1, HN.out, HG.out.1.2]; exact (if_neg (show ¬ 0 < Sr.gap L.epoch me from Int.not_lt.2 HGP.out)).trans (if_pos hee))
              clear hee
              go_wp2_with fail
              refine wp_region_plan [] [(0, 0), (1, 0), (2, 0), (3, 1), (4, 0), (5, 1), (6, 0), (7, 0)] (fun w' : World => w'.cell? ⟨vbo mn, 2, none⟩ = some (.int .u32 L.epoch) ∧ w'.cell? ⟨pb, 2, none⟩ = some (.int .u32 me)) (by kernel_rfl) (by kernel_rfl) (fun d _ _ _ _ h => by cases d <;> exact h) ?_
              repeat (first | (refine plan_skip rfl rfl ?_; simp only [List.getElem_toArray, List.getElem_cons_succ, List.getElem_cons_zero, Act.put, List.setIfInBounds_toArray, List.set_cons_zero, List.set_cons_succ]) | (refine plan_pass2 rfl rfl ?_; simp only [List.getElem_toArray, List.getElem_cons_succ, List.getElem_cons_zero, Act.put, List.setIfInBounds_toArray, List.set_cons_zero, List.set_cons_succ]) | (refine plan_pass3 rfl rfl ?_; simp only [List.getElem_toArray, List.getElem_cons_succ, List.getElem_cons_zero, Act.put, List.setIfInBounds_toArray, List.set_cons_zero, List.set_cons_succ]) | (refine plan_take (v := ?_) rfl rfl ?_ ?_; rotate_left; (focus (intro w0; go_simp; try with_reducible rfl)); simp only [List.getElem_toArray, List.getElem_cons_succ, List.getElem_cons_zero, Act.put, List.setIfInBounds_toArray, List.set_cons_zero, List.set_cons_succ]) | (refine plan_held (v := ?_) rfl rfl hS7 ?_ ?_; rotate_left; (focus (intro w0 hSw; (try dsimp only at hSw); go_split_ands; go_simp; try with_reducible rfl)); simp only [List.getElem_toArray, List.getElem_cons_succ, List.getElem_cons_zero, Act.put, List.setIfInBounds_toArray, List.set_cons_zero, List.set_cons_succ])  | (refine plan_skip1 rfl rfl hS7 ?_; simp only [List.getElem_toArray, List.getElem_cons_succ, List.getElem_cons_zero, Act.put, List.setIfInBounds_toArray, List.set_cons_zero, List.set_cons_succ]))
              try simp only [hbe]
              repeat (first | (refine plan_skip rfl rfl ?_; simp only [List.getElem_toArray, List.getElem_cons_succ, List.getElem_cons_zero, Act.put, List.setIfInBounds_toArray, List.set_cons_zero, List.set_cons_succ]) | (refine plan_pass2 rfl rfl ?_; simp only [List.getElem_toArray, List.getElem_cons_succ, List.getElem_cons_zero, Act.put, List.setIfInBounds_toArray, List.set_cons_zero, List.set_cons_succ]) | (refine plan_pass3 rfl rfl ?_; simp only [List.getElem_toArray, List.getElem_cons_succ, List.getElem_cons_zero, Act.put, List.setIfInBounds_toArray, List.set_cons_zero, List.set_cons_succ]) | (refine plan_take (v := ?_) rfl rfl ?_ ?_; rotate_left; (focus (intro w0; go_simp; try with_reducible rfl)); simp only [List.getElem_toArray, List.getElem_cons_succ, List.getElem_cons_zero, Act.put, List.setIfInBounds_toArray, List.set_cons_zero, List.set_cons_succ]) | (refine plan_held (v := ?_) rfl rfl hS7 ?_ ?_; rotate_left; (focus (intro w0 hSw; (try dsimp only at hSw); go_split_ands; go_simp; try with_reducible rfl)); simp only [List.getElem_toArray, List.getElem_cons_succ, List.getElem_cons_zero, Act.put, List.setIfInBounds_toArray, List.set_cons_zero, List.set_cons_succ])  | (refine plan_skip1 rfl rfl hS7 ?_; simp only [List.getElem_toArray, List.getElem_cons_succ, List.getElem_cons_zero, Act.put, List.setIfInBounds_toArray, List.set_cons_zero, List.set_cons_succ]))
              refine plan_nil ?_
              clear hS7
              go_wp2
              go_ret3
              rw [HE.out]
              exact hear_none HAT.out (HM.out.drew.drew.drew.drew)
      | some eg =>
        have heg : (0 ≤ eg ∧ eg < 4294967296) := HH.out.ge _ _ hg
        have HGV : Hid ((GV G mn) = some (.int .u32 eg)) := Lib.hid (by unfold GV; rw [hg]; rfl)
        by_cases hgp : 0 < Sr.gap eg me
        · have HG : Hid ((M.node = mn ∧ M.epoch = me) ∧ ¬ (G M.node).any (fun e => !decide (0 < Sr.gap e M.epoch)) = true) := Lib.hid (by rw [HMM.out]; exact ⟨⟨rfl, rfl⟩, by show ¬ (G mn).any (fun e => !decide (0 < Sr.gap e me)) = true; rw [hg]; simp [hgp]⟩)
          have hdg : decide (0 < Sr.gap eg me) = true := decide_eq_true hgp
          clear hg hgp
          refine wp_region_plan [] [(0, 0), (1, 0), (2, 0), (3, 1), (4, 0), (5, 1), (6, 1), (7, 0), (8, 0), (9, 0), (10, 0), (11, 0)] (fun w' : World => w'.cell? ⟨hb, 1, none⟩ = some (.map (some gm)) ∧ w'.cell? ⟨pb, 0, none⟩ = some (.int .i64 mn) ∧ KM w' gm (GV G)) (by kernel_rfl) (by kernel_rfl) (fun d _ _ _ _ h => by cases d <;> exact h) ?_
          repeat (first | (refine plan_skip rfl rfl ?_; simp only [List.getElem_toArray, List.getElem_cons_succ, List.getElem_cons_zero, Act.put, List.setIfInBounds_toArray, List.set_cons_zero, List.set_cons_succ]) | (refine plan_pass2 rfl rfl ?_; simp only [List.getElem_toArray, List.getElem_cons_succ, List.getElem_cons_zero, Act.put, List.setIfInBounds_toArray, List.set_cons_zero, List.set_cons_succ]) | (refine plan_pass3 rfl rfl ?_; simp only [List.getElem_toArray, List.getElem_cons_succ, List.getElem_cons_zero, Act.put, List.setIfInBounds_toArray, List.set_cons_zero, List.set_cons_succ]) | (refine plan_take (v := ?_) rfl rfl ?_ ?_; rotate_left; (focus (intro w0; go_simp; try with_reducible rfl)); simp only [List.getElem_toArray, List.getElem_cons_succ, List.getElem_cons_zero, Act.put, List.setIfInBounds_toArray, List.set_cons_zero, List.set_cons_succ]) | (refine plan_held (v := ?_) rfl rfl hS ?_ ?_; rotate_left; (focus (intro w0 hSw; (try dsimp only at hSw); go_split_ands; go_simp; try with_reducible rfl)); simp only [List.getElem_toArray, List.getElem_cons_succ, List.getElem_cons_zero, Act.put, List.setIfInBounds_toArray, List.set_cons_zero, List.set_cons_succ])  | (refine plan_skip1 rfl rfl hS ?_; simp only [List.getElem_toArray, List.getElem_cons_succ, List.getElem_cons_zero, Act.put, List.setIfInBounds_toArray, List.set_cons_zero, List.set_cons_succ]))
          (refine plan_held (v := .tuple #[.int .u32 eg, .bool true]) rfl rfl hS (fun w0 h0 => by rw [h0.2.2.exec_lookup (P := Try.prog) Try.underlying113 Try.underlying3 zeroU32 rfl rfl rfl, HGV.out]; rfl) ?_; try simp only [List.getElem_toArray, List.getElem_cons_succ, List.getElem_cons_zero, Act.put, List.setIfInBounds_toArray, List.set_cons_zero, List.set_cons_succ])
          repeat (first | (refine plan_skip rfl rfl ?_; simp only [List.getElem_toArray, List.getElem_cons_succ, List.getElem_cons_zero, Act.put, List.setIfInBounds_toArray, List.set_cons_zero, List.set_cons_succ]) | (refine plan_pass2 rfl rfl ?_; simp only [List.getElem_toArray, List.getElem_cons_succ, List.getElem_cons_zero, Act.put, List.setIfInBounds_toArray, List.set_cons_zero, List.set_cons_succ]) | (refine plan_pass3 rfl rfl ?_; simp only [List.getElem_toArray, List.getElem_cons_succ, List.getElem_cons_zero, Act.put, List.setIfInBounds_toArray, List.set_cons_zero, List.set_cons_succ]) | (refine plan_take (v := ?_) rfl rfl ?_ ?_; rotate_left; (focus (intro w0; go_simp; try with_reducible rfl)); simp only [List.getElem_toArray, List.getElem_cons_succ, List.getElem_cons_zero, Act.put, List.setIfInBounds_toArray, List.set_cons_zero, List.set_cons_succ]) | (refine plan_held (v := ?_) rfl rfl hS ?_ ?_; rotate_left; (focus (intro w0 hSw; (try dsimp only at hSw); go_split_ands; go_simp; try with_reducible rfl)); simp only [List.getElem_toArray, List.getElem_cons_succ, List.getElem_cons_zero, Act.put, List.setIfInBounds_toArray, List.set_cons_zero, List.set_cons_succ])  | (refine plan_skip1 rfl rfl hS ?_; simp only [List.getElem_toArray, List.getElem_cons_succ, List.getElem_cons_zero, Act.put, List.setIfInBounds_toArray, List.set_cons_zero, List.set_cons_succ]))
          refine plan_nil ?_
          have kb2 : wA.drew.cell? ⟨pb, 2, none⟩ = some (.int .u32 me) := HPB.out.cell rfl
          go_wp2_with (go_at_call 78; refine (Less_any _ _ _).mono ?_; rintro e w' ⟨rfl, rfl⟩; rw [hdg])
          clear kb2
          have hlt6 : KM wA.drew.drew km (KV vbo l) := HH.out.kn.keep (HM.out.drew.drew) fun f => f
          have hS6 : wA.drew.drew.cell? ⟨hb, 0, none⟩ = some (.map (some km)) ∧ wA.drew.drew.cell? ⟨pb, 0, none⟩ = some (.int .i64 mn) ∧ KM wA.drew.drew km (KV vbo l) := ⟨c0, HPB.out.cell rfl, hlt6⟩
          clear hS hlt6
          cases hn : hfind Life.node l mn with
          | none =>
            have HE : Hid (hubHear l G M = hubNew l M) := Lib.hid (by unfold hubHear; rw [if_neg HND.out, if_neg HG.out.2, HG.out.1.1, hn])
            have HKV : Hid ((KV vbo l mn).getD (.pointer none) = .pointer none) := Lib.hid (by unfold KV; rw [hn]; rfl)
            clear hn
            refine wp_region_plan [] [(0, 0), (1, 0), (2, 0), (3, 1), (4, 0), (5, 1), (6, 1), (7, 0)] (fun w' : World => w'.cell? ⟨hb, 0, none⟩ = some (.map (some km)) ∧ w'.cell? ⟨pb, 0, none⟩ = some (.int .i64 mn) ∧ KM w' km (KV vbo l)) (by kernel_rfl) (by kernel_rfl) (fun d _ _ _ _ h => by cases d <;> exact h) ?_
            repeat (first | (refine plan_skip rfl rfl ?_; simp only [List.getElem_toArray, List.getElem_cons_succ, List.getElem_cons_zero, Act.put, List.setIfInBounds_toArray, List.set_cons_zero, List.set_cons_succ]) | (refine plan_pass2 rfl rfl ?_; simp only [List.getElem_toArray, List.getElem_cons_succ, List.getElem_cons_zero, Act.put, List.setIfInBounds_toArray, List.set_cons_zero, List.set_cons_succ]) | (refine plan_pass3 rfl rfl ?_; simp only [List.getElem_toArray, List.getElem_cons_succ, List.getElem_cons_zero, Act.put, List.setIfInBounds_toArray, List.set_cons_zero, List.set_cons_succ]) | (refine plan_take (v := ?_) rfl rfl ?_ ?_; rotate_left; (focus (intro w0; go_simp; try with_reducible rfl)); simp only [List.getElem_toArray, List.getElem_cons_succ, List.getElem_cons_zero, Act.put, List.setIfInBounds_toArray, List.set_cons_zero, List.set_cons_succ]) | (refine plan_held (v := ?_) rfl rfl hS6 ?_ ?_; rotate_left; (focus (intro w0 hSw; (try dsimp only at hSw); go_split_ands; go_simp; try with_reducible rfl)); simp only [List.getElem_toArray, List.getElem_cons_succ, List.getElem_cons_zero, Act.put, List.setIfInBounds_toArray, List.set_cons_zero, List.set_cons_succ])  | (refine plan_skip1 rfl rfl hS6 ?_; simp only [List.getElem_toArray, List.getElem_cons_succ, List.getElem_cons_zero, Act.put, List.setIfInBounds_toArray, List.set_cons_zero, List.set_cons_succ]))
            (refine plan_held (v := .pointer none) rfl rfl hS6 (fun w0 h0 => by rw [h0.2.2.exec_lookup (P := Try.prog) Try.underlying112 Try.underlying3 zeroLife rfl rfl rfl]; simp only [Bool.false_eq_true, if_false]; rw [HKV.out]) ?_; try simp only [List.getElem_toArray, List.getElem_cons_succ, List.getElem_cons_zero, Act.put, List.setIfInBounds_toArray, List.set_cons_zero, List.set_cons_succ])
            repeat (first | (refine plan_skip rfl rfl ?_; simp only [List.getElem_toArray, List.getElem_cons_succ, List.getElem_cons_zero, Act.put, List.setIfInBounds_toArray, List.set_cons_zero, List.set_cons_succ]) | (refine plan_pass2 rfl rfl ?_; simp only [List.getElem_toArray, List.getElem_cons_succ, List.getElem_cons_zero, Act.put, List.setIfInBounds_toArray, List.set_cons_zero, List.set_cons_succ]) | (refine plan_pass3 rfl rfl ?_; simp only [List.getElem_toArray, List.getElem_cons_succ, List.getElem_cons_zero, Act.put, List.setIfInBounds_toArray, List.set_cons_zero, List.set_cons_succ]) | (refine plan_take (v := ?_) rfl rfl ?_ ?_; rotate_left; (focus (intro w0; go_simp; try with_reducible rfl)); simp only [List.getElem_toArray, List.getElem_cons_succ, List.getElem_cons_zero, Act.put, List.setIfInBounds_toArray, List.set_cons_zero, List.set_cons_succ]) | (refine plan_held (v := ?_) rfl rfl hS6 ?_ ?_; rotate_left; (focus (intro w0 hSw; (try dsimp only at hSw); go_split_ands; go_simp; try with_reducible rfl)); simp only [List.getElem_toArray, List.getElem_cons_succ, List.getElem_cons_zero, Act.put, List.setIfInBounds_toArray, List.set_cons_zero, List.set_cons_succ])  | (refine plan_skip1 rfl rfl hS6 ?_; simp only [List.getElem_toArray, List.getElem_cons_succ, List.getElem_cons_zero, Act.put, List.setIfInBounds_toArray, List.set_cons_zero, List.set_cons_succ]))
            refine plan_nil ?_
            clear hS6
            go_wp2_with fail
            refine wp_region_plan [9] [(0, 0), (1, 0), (2, 0), (3, 0), (4, 0), (5, 0), (6, 1), (7, 0), (8, 1), (9, 3), (10, 0), (11, 0)] (fun w' : World => True) (by kernel_rfl) (by kernel_rfl) (fun d _ _ _ _ h => by cases d <;> exact h) ?_
            repeat (first | (refine plan_skip rfl rfl ?_; simp only [List.getElem_toArray, List.getElem_cons_succ, List.getElem_cons_zero, Act.put, List.setIfInBounds_toArray, List.set_cons_zero, List.set_cons_succ]) | (refine plan_pass2 rfl rfl ?_; simp only [List.getElem_toArray, List.getElem_cons_succ, List.getElem_cons_zero, Act.put, List.setIfInBounds_toArray, List.set_cons_zero, List.set_cons_succ]) | (refine plan_pass3 rfl rfl ?_; simp only [List.getElem_toArray, List.getElem_cons_succ, List.getElem_cons_zero, Act.put, List.setIfInBounds_toArray, List.set_cons_zero, List.set_cons_succ]) | (refine plan_take (v := ?_) rfl rfl ?_ ?_; rotate_left; (focus (intro w0; go_simp; try with_reducible rfl)); simp only [List.getElem_toArray, List.getElem_cons_succ, List.getElem_cons_zero, Act.put, List.setIfInBounds_toArray, List.set_cons_zero, List.set_cons_succ]) | (refine plan_held (v := ?_) rfl rfl trivial ?_ ?_; rotate_left; (focus (intro w0 hSw; (try dsimp only at hSw); go_split_ands; go_simp; try with_reducible rfl)); simp only [List.getElem_toArray, List.getElem_cons_succ, List.getElem_cons_zero, Act.put, List.setIfInBounds_toArray, List.set_cons_zero, List.set_cons_succ])  | (refine plan_skip1 rfl rfl trivial ?_; simp only [List.getElem_toArray, List.getElem_cons_succ, List.getElem_cons_zero, Act.put, List.setIfInBounds_toArray, List.set_cons_zero, List.set_cons_succ]))
            refine plan_nil ?_
            have kb0 : wA.drew.drew.drew.cell? ⟨pb, 0, none⟩ = some (.int .i64 mn) := HPB.out.cell rfl
            have kb2 : wA.drew.drew.drew.cell? ⟨pb, 2, none⟩ = some (.int .u32 me) := HPB.out.cell rfl
            go_wp2_with fail
            clear kb0 kb2
            -- a life begins
            have hrm := HRG.out
            refine (fresh_any mn false me _ he0 he1).mono ?_; rintro e w3 ⟨p, rfl, hl3, hm3⟩
            have HL3 := Lib.hid hl3
            have HM3 := Lib.hid (((HM.out.drew.drew).drew).trans hm3 fun _ f => f.elim)
            have hpl : wA.heap.size ≤ p := hl3.2.1
            have HPL := Lib.hid hpl
            have HPB3 := Lib.hid (Blk.keep (HPB.out) (((Mod.refl (fun _ => False) wA).drew.drew.drew).trans hm3 fun _ f => f.elim) fun f => f)
            have hS10 : w3.drew.cell? ⟨hb, 0, none⟩ = some (.map (some km)) ∧ w3.drew.cell? ⟨pb, 0, none⟩ = some (.int .i64 mn) := ⟨hm3.cell (fun f => f) c0, HPB3.out.cell rfl⟩
            have HK3 := Lib.hid ((HH.out.kn.keep HM3.out fun f => f).keep (Mod.refl (fun _ => False) _).drew fun f => f)
            clear hl3 hm3 hpl
            go_wp2_with fail
            refine wp_region_plan [7] [(0, 0), (1, 0), (2, 0), (3, 1), (4, 0), (5, 1), (6, 0), (7, 3)] (fun w' : World => w'.cell? ⟨hb, 0, none⟩ = some (.map (some km)) ∧ w'.cell? ⟨pb, 0, none⟩ = some (.int .i64 mn)) (by kernel_rfl) (by kernel_rfl) (fun d _ _ _ _ h => by cases d <;> exact h) ?_
            repeat (first | (refine plan_skip rfl rfl ?_; simp only [List.getElem_toArray, List.getElem_cons_succ, List.getElem_cons_zero, Act.put, List.setIfInBounds_toArray, List.set_cons_zero, List.set_cons_succ]) | (refine plan_pass2 rfl rfl ?_; simp only [List.getElem_toArray, List.getElem_cons_succ, List.getElem_cons_zero, Act.put, List.setIfInBounds_toArray, List.set_cons_zero, List.set_cons_succ]) | (refine plan_pass3 rfl rfl ?_; simp only [List.getElem_toArray, List.getElem_cons_succ, List.getElem_cons_zero, Act.put, List.setIfInBounds_toArray, List.set_cons_zero, List.set_cons_succ]) | (refine plan_take (v := ?_) rfl rfl ?_ ?_; rotate_left; (focus (intro w0; go_simp; try with_reducible rfl)); simp only [List.getElem_toArray, List.getElem_cons_succ, List.getElem_cons_zero, Act.put, List.setIfInBounds_toArray, List.set_cons_zero, List.set_cons_succ]) | (refine plan_held (v := ?_) rfl rfl hS10 ?_ ?_; rotate_left; (focus (intro w0 hSw; (try dsimp only at hSw); go_split_ands; go_simp; try with_reducible rfl)); simp only [List.getElem_toArray, List.getElem_cons_succ, List.getElem_cons_zero, Act.put, List.setIfInBounds_toArray, List.set_cons_zero, List.set_cons_succ])  | (refine plan_skip1 rfl rfl hS10 ?_; simp only [List.getElem_toArray, List.getElem_cons_succ, List.getElem_cons_zero, Act.put, List.setIfInBounds_toArray, List.set_cons_zero, List.set_cons_succ]))
            (refine plan_end rfl rfl rfl fun K hK => ?_; (try simp only [List.getElem_toArray, List.getElem_cons_succ, List.getElem_cons_zero]))
            refine wp_update_km (P := Try.prog) Try.underlying112 Try.underlying3 rfl (k := mn) (v := .pointer (some ⟨p, 0, none⟩)) rfl rfl rfl HK3.out ?_
            intro w4 HK4 HM4
            refine hK _ _ ?_
            clear hK K
            try simp only [List.getElem_toArray, List.getElem_cons_succ, List.getElem_cons_zero, Act.put, List.setIfInBounds_toArray, List.set_cons_zero, List.set_cons_succ]
            repeat (first | (refine plan_skip rfl rfl ?_; simp only [List.getElem_toArray, List.getElem_cons_succ, List.getElem_cons_zero, Act.put, List.setIfInBounds_toArray, List.set_cons_zero, List.set_cons_succ]) | (refine plan_pass2 rfl rfl ?_; simp only [List.getElem_toArray, List.getElem_cons_succ, List.getElem_cons_zero, Act.put, List.setIfInBounds_toArray, List.set_cons_zero, List.set_cons_succ]) | (refine plan_pass3 rfl rfl ?_; simp only [List.getElem_toArray, List.getElem_cons_succ, List.getElem_cons_zero, Act.put, List.setIfInBounds_toArray, List.set_cons_zero, List.set_cons_succ]) | (refine plan_take (v := ?_) rfl rfl ?_ ?_; rotate_left; (focus (intro w0; go_simp; try with_reducible rfl)); simp only [List.getElem_toArray, List.getElem_cons_succ, List.getElem_cons_zero, Act.put, List.setIfInBounds_toArray, List.set_cons_zero, List.set_cons_succ]) | fail )
            refine plan_nil ?_
            have HM34 := Lib.hid (Mod.ofDrew HM4.out)
            have hkl := HH.out.kn.lt
            have HKL := Lib.hid hkl
            have HPB4 := Lib.hid (HPB3.out.keep HM34.out (show ¬ pb = km by have := HPE.out; omega))
            have HL4 := Lib.hid (HL3.out.keep HM34.out fun k hk => show ¬ k = km by have hk2 : wA.heap.size ≤ k := hk; have := HSZ.out; omega)
            clear hS10 hkl
            have kq0 := HPB4.out.cell (j := 0) rfl
            have kq1 := HPB4.out.cell (j := 1) rfl
            have kq2 := HPB4.out.cell (j := 2) rfl
            have kq3 := HPB4.out.cell (j := 3) rfl
            have kq4 := HPB4.out.cell (j := 4) rfl
            have kq5 := HPB4.out.cell (j := 5) rfl
            have kq6 := HPB4.out.cell (j := 6) rfl
            go_wp2_with fail
            clear kq0 kq1 kq2 kq3 kq4 kq5 kq6
            rw [← HCS.out]
            refine (hear_any p _ _ M _ HL4.out HOK.out).mono ?_; rintro e w5 ⟨v5, rfl, hv5, hl5, hm5⟩
            have HV5 := Lib.hid hv5
            have HL5 := Lib.hid hl5
            have HM5 := Lib.hid hm5
            clear hv5 hl5 hm5
            go_wp2
            go_ret3
            have hs3 := HM3.out.size
            have hs4 := HM34.out.size
            have hsz := HSZ.out
            have hkl := HKL.out
            have hmt : Mod (fun k => k = km) w w5 := ((HM3.out.mono (G := fun k => k = km) fun _ f => f.elim).trans HM34.out fun k hk => .inl hk).trans HM5.out fun k hk => .inr (by have : wA.heap.size ≤ k := hk; omega)
            have hnd : ((Life.fresh mn false me).hear M).2.node = mn := Life.hear_node _ _
            have hlife : LifeAt w5 p (fun k => c k = .inl ((Life.fresh mn false me).hear M).2.node ∨ w.heap.size ≤ k) ((Life.fresh mn false me).hear M).2 := HL5.out.mono fun k hk _ => .inr (by
              rcases hk with hk | hk
              · have : wA.heap.size ≤ k := hk; omega
              · omega)
            have hput := HH.out.put hmt (x := ((Life.fresh mn false me).hear M).2) (vb := p) (by rw [hnd]; exact HRG.out) (fun k hk => .inr (by rw [hk]; exact HH.out.f1)) hlife (by rw [hnd]; exact HK4.out.keep HM5.out (show ¬ wA.heap.size ≤ km by omega))
            rw [HE.out]
            unfold hubNew
            rw [HG.out.1.1, HG.out.1.2]
            exact ⟨_, _, rfl, HV5.out.mono fun k hk => by have hk2 : w4.heap.size ≤ k := hk; show w.heap.size ≤ k; omega, Row.nil _ _ _ _, ⟨km, gm, _, _, hput, fun k hk => by
              by_cases hl : w.heap.size ≤ k
              · exact .inr hl
              · rw [dyed_old (by omega)] at hk; exact .inl (HC.out k hk)⟩, hmt.mono fun k hk => .inl (HC.out k (by rw [hk, HH.out.f1]; decide))⟩

          | some L =>
            have hne := eql_life (vbo mn)
            obtain ⟨hLn, hL⟩ := HH.out.life hn
            have d2 : wA.drew.drew.drew.cell? ⟨vbo mn, 2, none⟩ = some (.int .u32 L.epoch) := by
              obtain ⟨po, fs, d0, d2, _⟩ := hL.sub
              exact HM.out.cell (fun f => f) d2
            have HN := Lib.hid hn
            have HLN := Lib.hid hLn
            have HKV : Hid ((KV vbo l mn).getD (.pointer none) = .pointer (some ⟨vbo mn, 0, none⟩)) := Lib.hid (by unfold KV ptrV; rw [hn]; rfl)
            have hS7 : wA.drew.drew.drew.cell? ⟨vbo mn, 2, none⟩ = some (.int .u32 L.epoch) ∧ wA.drew.drew.drew.cell? ⟨pb, 2, none⟩ = some (.int .u32 me) := ⟨d2, HPB.out.cell rfl⟩
            clear hn hL hLn d2
            refine wp_region_plan [] [(0, 0), (1, 0), (2, 0), (3, 1), (4, 0), (5, 1), (6, 1), (7, 0)] (fun w' : World => w'.cell? ⟨hb, 0, none⟩ = some (.map (some km)) ∧ w'.cell? ⟨pb, 0, none⟩ = some (.int .i64 mn) ∧ KM w' km (KV vbo l)) (by kernel_rfl) (by kernel_rfl) (fun d _ _ _ _ h => by cases d <;> exact h) ?_
            repeat (first | (refine plan_skip rfl rfl ?_; simp only [List.getElem_toArray, List.getElem_cons_succ, List.getElem_cons_zero, Act.put, List.setIfInBounds_toArray, List.set_cons_zero, List.set_cons_succ]) | (refine plan_pass2 rfl rfl ?_; simp only [List.getElem_toArray, List.getElem_cons_succ, List.getElem_cons_zero, Act.put, List.setIfInBounds_toArray, List.set_cons_zero, List.set_cons_succ]) | (refine plan_pass3 rfl rfl ?_; simp only [List.getElem_toArray, List.getElem_cons_succ, List.getElem_cons_zero, Act.put, List.setIfInBounds_toArray, List.set_cons_zero, List.set_cons_succ]) | (refine plan_take (v := ?_) rfl rfl ?_ ?_; rotate_left; (focus (intro w0; go_simp; try with_reducible rfl)); simp only [List.getElem_toArray, List.getElem_cons_succ, List.getElem_cons_zero, Act.put, List.setIfInBounds_toArray, List.set_cons_zero, List.set_cons_succ]) | (refine plan_held (v := ?_) rfl rfl hS6 ?_ ?_; rotate_left; (focus (intro w0 hSw; (try dsimp only at hSw); go_split_ands; go_simp; try with_reducible rfl)); simp only [List.getElem_toArray, List.getElem_cons_succ, List.getElem_cons_zero, Act.put, List.setIfInBounds_toArray, List.set_cons_zero, List.set_cons_succ])  | (refine plan_skip1 rfl rfl hS6 ?_; simp only [List.getElem_toArray, List.getElem_cons_succ, List.getElem_cons_zero, Act.put, List.setIfInBounds_toArray, List.set_cons_zero, List.set_cons_succ]))
            (refine plan_held (v := .pointer (some ⟨vbo mn, 0, none⟩)) rfl rfl hS6 (fun w0 h0 => by rw [h0.2.2.exec_lookup (P := Try.prog) Try.underlying112 Try.underlying3 zeroLife rfl rfl rfl]; simp only [Bool.false_eq_true, if_false]; rw [HKV.out]) ?_; try simp only [List.getElem_toArray, List.getElem_cons_succ, List.getElem_cons_zero, Act.put, List.setIfInBounds_toArray, List.set_cons_zero, List.set_cons_succ])
            repeat (first | (refine plan_skip rfl rfl ?_; simp only [List.getElem_toArray, List.getElem_cons_succ, List.getElem_cons_zero, Act.put, List.setIfInBounds_toArray, List.set_cons_zero, List.set_cons_succ]) | (refine plan_pass2 rfl rfl ?_; simp only [List.getElem_toArray, List.getElem_cons_succ, List.getElem_cons_zero, Act.put, List.setIfInBounds_toArray, List.set_cons_zero, List.set_cons_succ]) | (refine plan_pass3 rfl rfl ?_; simp only [List.getElem_toArray, List.getElem_cons_succ, List.getElem_cons_zero, Act.put, List.setIfInBounds_toArray, List.set_cons_zero, List.set_cons_succ]) | (refine plan_take (v := ?_) rfl rfl ?_ ?_; rotate_left; (focus (intro w0; go_simp; try with_reducible rfl)); simp only [List.getElem_toArray, List.getElem_cons_succ, List.getElem_cons_zero, Act.put, List.setIfInBounds_toArray, List.set_cons_zero, List.set_cons_succ]) | (refine plan_held (v := ?_) rfl rfl hS6 ?_ ?_; rotate_left; (focus (intro w0 hSw; (try dsimp only at hSw); go_split_ands; go_simp; try with_reducible rfl)); simp only [List.getElem_toArray, List.getElem_cons_succ, List.getElem_cons_zero, Act.put, List.setIfInBounds_toArray, List.set_cons_zero, List.set_cons_succ])  | (refine plan_skip1 rfl rfl hS6 ?_; simp only [List.getElem_toArray, List.getElem_cons_succ, List.getElem_cons_zero, Act.put, List.setIfInBounds_toArray, List.set_cons_zero, List.set_cons_succ]))
            refine plan_nil ?_
            clear hS6
            by_cases hgp : 0 < Sr.gap L.epoch me
            · have HE : Hid (hubHear l G M = hubNew l M) := Lib.hid (by unfold hubHear; rw [if_neg HND.out, if_neg HG.out.2, HG.out.1.1, HN.out, HG.out.1.2]; exact if_pos hgp)
              have hdl : decide (0 < Sr.gap L.epoch me) = true := decide_eq_true hgp
              clear hgp
              go_wp2_with fail
              refine wp_region_plan [9] [(0, 0), (1, 0), (2, 0), (3, 0), (4, 0), (5, 0), (6, 1), (7, 0), (8, 1), (9, 3), (10, 0), (11, 0)] (fun w' : World => w'.cell? ⟨vbo mn, 2, none⟩ = some (.int .u32 L.epoch) ∧ w'.cell? ⟨pb, 2, none⟩ = some (.int .u32 me)) (by kernel_rfl) (by kernel_rfl) (fun d _ _ _ _ h => by cases d <;> exact h) ?_
              repeat (first | (refine plan_skip rfl rfl ?_; simp only [List.getElem_toArray, List.getElem_cons_succ, List.getElem_cons_zero, Act.put, List.setIfInBounds_toArray, List.set_cons_zero, List.set_cons_succ]) | (refine plan_pass2 rfl rfl ?_; simp only [List.getElem_toArray, List.getElem_cons_succ, List.getElem_cons_zero, Act.put, List.setIfInBounds_toArray, List.set_cons_zero, List.set_cons_succ]) | (refine plan_pass3 rfl rfl ?_; simp only [List.getElem_toArray, List.getElem_cons_succ, List.getElem_cons_zero, Act.put, List.setIfInBounds_toArray, List.set_cons_zero, List.set_cons_succ]) | (refine plan_take (v := ?_) rfl rfl ?_ ?_; rotate_left; (focus (intro w0; go_simp; try with_reducible rfl)); simp only [List.getElem_toArray, List.getElem_cons_succ, List.getElem_cons_zero, Act.put, List.setIfInBounds_toArray, List.set_cons_zero, List.set_cons_succ]) | (refine plan_held (v := ?_) rfl rfl hS7 ?_ ?_; rotate_left; (focus (intro w0 hSw; (try dsimp only at hSw); go_split_ands; go_simp; try with_reducible rfl)); simp only [List.getElem_toArray, List.getElem_cons_succ, List.getElem_cons_zero, Act.put, List.setIfInBounds_toArray, List.set_cons_zero, List.set_cons_succ])  | (refine plan_skip1 rfl rfl hS7 ?_; simp only [List.getElem_toArray, List.getElem_cons_succ, List.getElem_cons_zero, Act.put, List.setIfInBounds_toArray, List.set_cons_zero, List.set_cons_succ]))
              (refine plan_end rfl rfl rfl fun K hK => ?_; (try simp only [List.getElem_toArray, List.getElem_cons_succ, List.getElem_cons_zero]))
              go_simp
              refine (Less_any _ _ _).mono ?_; rintro e w' ⟨rfl, rfl⟩
              rw [hdl]
              refine hK _ _ ?_
              clear hK K
              try simp only [List.getElem_toArray, List.getElem_cons_succ, List.getElem_cons_zero, Act.put, List.setIfInBounds_toArray, List.set_cons_zero, List.set_cons_succ]
              repeat (first | (refine plan_skip rfl rfl ?_; simp only [List.getElem_toArray, List.getElem_cons_succ, List.getElem_cons_zero, Act.put, List.setIfInBounds_toArray, List.set_cons_zero, List.set_cons_succ]) | (refine plan_pass2 rfl rfl ?_; simp only [List.getElem_toArray, List.getElem_cons_succ, List.getElem_cons_zero, Act.put, List.setIfInBounds_toArray, List.set_cons_zero, List.set_cons_succ]) | (refine plan_pass3 rfl rfl ?_; simp only [List.getElem_toArray, List.getElem_cons_succ, List.getElem_cons_zero, Act.put, List.setIfInBounds_toArray, List.set_cons_zero, List.set_cons_succ]) | (refine plan_take (v := ?_) rfl rfl ?_ ?_; rotate_left; (focus (intro w0; go_simp; try with_reducible rfl)); simp only [List.getElem_toArray, List.getElem_cons_succ, List.getElem_cons_zero, Act.put, List.setIfInBounds_toArray, List.set_cons_zero, List.set_cons_succ]) | fail )
              refine plan_nil ?_
              have kb0 : wA.drew.drew.drew.cell? ⟨pb, 0, none⟩ = some (.int .i64 mn) := HPB.out.cell rfl
              have kb2 : wA.drew.drew.drew.cell? ⟨pb, 2, none⟩ = some (.int .u32 me) := HPB.out.cell rfl
              clear hS7
              go_wp2_with fail
              clear kb0 kb2
              -- a life begins
              have hrm := HRG.out
              refine (fresh_any mn false me _ he0 he1).mono ?_; rintro e w3 ⟨p, rfl, hl3, hm3⟩
              have HL3 := Lib.hid hl3
              have HM3 := Lib.hid (((HM.out.drew.drew).drew).trans hm3 fun _ f => f.elim)
              have hpl : wA.heap.size ≤ p := hl3.2.1
              have HPL := Lib.hid hpl
              have HPB3 := Lib.hid (Blk.keep (HPB.out) (((Mod.refl (fun _ => False) wA).drew.drew.drew).trans hm3 fun _ f => f.elim) fun f => f)
              have hS10 : w3.drew.cell? ⟨hb, 0, none⟩ = some (.map (some km)) ∧ w3.drew.cell? ⟨pb, 0, none⟩ = some (.int .i64 mn) := ⟨hm3.cell (fun f => f) c0, HPB3.out.cell rfl⟩
              have HK3 := Lib.hid ((HH.out.kn.keep HM3.out fun f => f).keep (Mod.refl (fun _ => False) _).drew fun f => f)
              clear hl3 hm3 hpl
              go_wp2_with fail
              refine wp_region_plan [7] [(0, 0), (1, 0), (2, 0), (3, 1), (4, 0), (5, 1), (6, 0), (7, 3)] (fun w' : World => w'.cell? ⟨hb, 0, none⟩ = some (.map (some km)) ∧ w'.cell? ⟨pb, 0, none⟩ = some (.int .i64 mn)) (by kernel_rfl) (by kernel_rfl) (fun d _ _ _ _ h => by cases d <;> exact h) ?_
              repeat (first | (refine plan_skip rfl rfl ?_; simp only [List.getElem_toArray, List.getElem_cons_succ, List.getElem_cons_zero, Act.put, List.setIfInBounds_toArray, List.set_cons_zero, List.set_cons_succ]) | (refine plan_pass2 rfl rfl ?_; simp only [List.getElem_toArray, List.getElem_cons_succ, List.getElem_cons_zero, Act.put, List.setIfInBounds_toArray, List.set_cons_zero, List.set_cons_succ]) | (refine plan_pass3 rfl rfl ?_; simp only [List.getElem_toArray, List.getElem_cons_succ, List.getElem_cons_zero, Act.put, List.setIfInBounds_toArray, List.set_cons_zero, List.set_cons_succ]) | (refine plan_take (v := ?_) rfl rfl ?_ ?_; rotate_left; (focus (intro w0; go_simp; try with_reducible rfl)); simp only [List.getElem_toArray, List.getElem_cons_succ, List.getElem_cons_zero, Act.put, List.setIfInBounds_toArray, List.set_cons_zero, List.set_cons_succ]) | (refine plan_held (v := ?_) rfl rfl hS10 ?_ ?_; rotate_left; (focus (intro w0 hSw; (try dsimp only at hSw); go_split_ands; go_simp; try with_reducible rfl)); simp only [List.getElem_toArray, List.getElem_cons_succ, List.getElem_cons_zero, Act.put, List.setIfInBounds_toArray, List.set_cons_zero, List.set_cons_succ])  | (refine plan_skip1 rfl rfl hS10 ?_; simp only [List.getElem_toArray, List.getElem_cons_succ, List.getElem_cons_zero, Act.put, List.setIfInBounds_toArray, List.set_cons_zero, List.set_cons_succ]))
              (refine plan_end rfl rfl rfl fun K hK => ?_; (try simp only [List.getElem_toArray, List.getElem_cons_succ, List.getElem_cons_zero]))
              refine wp_update_km (P := Try.prog) Try.underlying112 Try.underlying3 rfl (k := mn) (v := .pointer (some ⟨p, 0, none⟩)) rfl rfl rfl HK3.out ?_
              intro w4 HK4 HM4
              refine hK _ _ ?_
              clear hK K
              try simp only [List.getElem_toArray, List.getElem_cons_succ, List.getElem_cons_zero, Act.put, List.setIfInBounds_toArray, List.set_cons_zero, List.set_cons_succ]
              repeat (first | (refine plan_skip rfl rfl ?_; simp only [List.getElem_toArray, List.getElem_cons_succ, List.getElem_cons_zero, Act.put, List.setIfInBounds_toArray, List.set_cons_zero, List.set_cons_succ]) | (refine plan_pass2 rfl rfl ?_; simp only [List.getElem_toArray, List.getElem_cons_succ, List.getElem_cons_zero, Act.put, List.setIfInBounds_toArray, List.set_cons_zero, List.set_cons_succ]) | (refine plan_pass3 rfl rfl ?_; simp only [List.getElem_toArray, List.getElem_cons_succ, List.getElem_cons_zero, Act.put, List.setIfInBounds_toArray, List.set_cons_zero, List.set_cons_succ]) | (refine plan_take (v := ?_) rfl rfl ?_ ?_; rotate_left; (focus (intro w0; go_simp; try with_reducible rfl)); simp only [List.getElem_toArray, List.getElem_cons_succ, List.getElem_cons_zero, Act.put, List.setIfInBounds_toArray, List.set_cons_zero, List.set_cons_succ]) | fail )
              refine plan_nil ?_
              have HM34 := Lib.hid (Mod.ofDrew HM4.out)
              have hkl := HH.out.kn.lt
              have HKL := Lib.hid hkl
              have HPB4 := Lib.hid (HPB3.out.keep HM34.out (show ¬ pb = km by have := HPE.out; omega))
              have HL4 := Lib.hid (HL3.out.keep HM34.out fun k hk => show ¬ k = km by have hk2 : wA.heap.size ≤ k := hk; have := HSZ.out; omega)
              clear hS10 hkl
              have kq0 := HPB4.out.cell (j := 0) rfl
              have kq1 := HPB4.out.cell (j := 1) rfl
              have kq2 := HPB4.out.cell (j := 2) rfl
              have kq3 := HPB4.out.cell (j := 3) rfl
              have kq4 := HPB4.out.cell (j := 4) rfl
              have kq5 := HPB4.out.cell (j := 5) rfl
              have kq6 := HPB4.out.cell (j := 6) rfl
              go_wp2_with fail
              clear kq0 kq1 kq2 kq3 kq4 kq5 kq6
              rw [← HCS.out]
              refine (hear_any p _ _ M _ HL4.out HOK.out).mono ?_; rintro e w5 ⟨v5, rfl, hv5, hl5, hm5⟩
              have HV5 := Lib.hid hv5
              have HL5 := Lib.hid hl5
              have HM5 := Lib.hid hm5
              clear hv5 hl5 hm5
              go_wp2
              go_ret3
              have hs3 := HM3.out.size
              have hs4 := HM34.out.size
              have hsz := HSZ.out
              have hkl := HKL.out
              have hmt : Mod (fun k => k = km) w w5 := ((HM3.out.mono (G := fun k => k = km) fun _ f => f.elim).trans HM34.out fun k hk => .inl hk).trans HM5.out fun k hk => .inr (by have : wA.heap.size ≤ k := hk; omega)
              have hnd : ((Life.fresh mn false me).hear M).2.node = mn := Life.hear_node _ _
              have hlife : LifeAt w5 p (fun k => c k = .inl ((Life.fresh mn false me).hear M).2.node ∨ w.heap.size ≤ k) ((Life.fresh mn false me).hear M).2 := HL5.out.mono fun k hk _ => .inr (by
                rcases hk with hk | hk
                · have : wA.heap.size ≤ k := hk; omega
                · omega)
              have hput := HH.out.put hmt (x := ((Life.fresh mn false me).hear M).2) (vb := p) (by rw [hnd]; exact HRG.out) (fun k hk => .inr (by rw [hk]; exact HH.out.f1)) hlife (by rw [hnd]; exact HK4.out.keep HM5.out (show ¬ wA.heap.size ≤ km by omega))
              rw [HE.out]
              unfold hubNew
              rw [HG.out.1.1, HG.out.1.2]
              exact ⟨_, _, rfl, HV5.out.mono fun k hk => by have hk2 : w4.heap.size ≤ k := hk; show w.heap.size ≤ k; omega, Row.nil _ _ _ _, ⟨km, gm, _, _, hput, fun k hk => by
                by_cases hl : w.heap.size ≤ k
                · exact .inr hl
                · rw [dyed_old (by omega)] at hk; exact .inl (HC.out k hk)⟩, hmt.mono fun k hk => .inl (HC.out k (by rw [hk, HH.out.f1]; decide))⟩

            · have hdl : decide (0 < Sr.gap L.epoch me) = false := decide_eq_false hgp
              have HGP := Lib.hid hgp
              clear hgp
              go_wp2_with fail
              refine wp_region_plan [9] [(0, 0), (1, 0), (2, 0), (3, 0), (4, 0), (5, 0), (6, 1), (7, 0), (8, 1), (9, 3), (10, 0), (11, 0)] (fun w' : World => w'.cell? ⟨vbo mn, 2, none⟩ = some (.int .u32 L.epoch) ∧ w'.cell? ⟨pb, 2, none⟩ = some (.int .u32 me)) (by kernel_rfl) (by kernel_rfl) (fun d _ _ _ _ h => by cases d <;> exact h) ?_
              repeat (first | (refine plan_skip rfl rfl ?_; simp only [List.getElem_toArray, List.getElem_cons_succ, List.getElem_cons_zero, Act.put, List.setIfInBounds_toArray, List.set_cons_zero, List.set_cons_succ]) | (refine plan_pass2 rfl rfl ?_; simp only [List.getElem_toArray, List.getElem_cons_succ, List.getElem_cons_zero, Act.put, List.setIfInBounds_toArray, List.set_cons_zero, List.set_cons_succ]) | (refine plan_pass3 rfl rfl ?_; simp only [List.getElem_toArray, List.getElem_cons_succ, List.getElem_cons_zero, Act.put, List.setIfInBounds_toArray, List.set_cons_zero, List.set_cons_succ]) | (refine plan_take (v := ?_) rfl rfl ?_ ?_; rotate_left; (focus (intro w0; go_simp; try with_reducible rfl)); simp only [List.getElem_toArray, List.getElem_cons_succ, List.getElem_cons_zero, Act.put, List.setIfInBounds_toArray, List.set_cons_zero, List.set_cons_succ]) | (refine plan_held (v := ?_) rfl rfl hS7 ?_ ?_; rotate_left; (focus (intro w0 hSw; (try dsimp only at hSw); go_split_ands; go_simp; try with_reducible rfl)); simp only [List.getElem_toArray, List.getElem_cons_succ, List.getElem_cons_zero, Act.put, List.setIfInBounds_toArray, List.set_cons_zero, List.set_cons_succ])  | (refine plan_skip1 rfl rfl hS7 ?_; simp only [List.getElem_toArray, List.getElem_cons_succ, List.getElem_cons_zero, Act.put, List.setIfInBounds_toArray, List.set_cons_zero, List.set_cons_succ]))
              (refine plan_end rfl rfl rfl fun K hK => ?_; (try simp only [List.getElem_toArray, List.getElem_cons_succ, List.getElem_cons_zero]))
              go_simp
              refine (Less_any _ _ _).mono ?_; rintro e w' ⟨rfl, rfl⟩
              rw [hdl]
              refine hK _ _ ?_
              clear hK K
              try simp only [List.getElem_toArray, List.getElem_cons_succ, List.getElem_cons_zero, Act.put, List.setIfInBounds_toArray, List.set_cons_zero, List.set_cons_succ]
              repeat (first | (refine plan_skip rfl rfl ?_; simp only [List.getElem_toArray, List.getElem_cons_succ, List.getElem_cons_zero, Act.put, List.setIfInBounds_toArray, List.set_cons_zero, List.set_cons_succ]) | (refine plan_pass2 rfl rfl ?_; simp only [List.getElem_toArray, List.getElem_cons_succ, List.getElem_cons_zero, Act.put, List.setIfInBounds_toArray, List.set_cons_zero, List.set_cons_succ]) | (refine plan_pass3 rfl rfl ?_; simp only [List.getElem_toArray, List.getElem_cons_succ, List.getElem_cons_zero, Act.put, List.setIfInBounds_toArray, List.set_cons_zero, List.set_cons_succ]) | (refine plan_take (v := ?_) rfl rfl ?_ ?_; rotate_left; (focus (intro w0; go_simp; try with_reducible rfl)); simp only [List.getElem_toArray, List.getElem_cons_succ, List.getElem_cons_zero, Act.put, List.setIfInBounds_toArray, List.set_cons_zero, List.set_cons_succ]) | fail )
              refine plan_nil ?_
              by_cases hee : L.epoch = me
              · have hbe : (L.epoch != me) = false := by simp [hee]
                have HE : Hid (hubHear l G M = (false, (L.hear M).1, [], hput Life.node l (L.hear M).2)) := Lib.hid (by unfold hubHear; rw [if_neg HND.out, if_neg HG.out.2, HG.out.1.1, HN.out, HG.out.1.2]; exact (if_neg (show ¬ 0 < Sr.gap L.epoch me from Int.not_lt.2 HGP.out)).trans (if_neg (fun h => h hee)))
                have HEE := Lib.hid hee
                clear hee
                go_wp2_with fail
                refine wp_region_plan [] [(0, 0), (1, 0), (2, 0), (3, 1), (4, 0), (5, 1), (6, 0), (7, 0)] (fun w' : World => w'.cell? ⟨vbo mn, 2, none⟩ = some (.int .u32 L.epoch) ∧ w'.cell? ⟨pb, 2, none⟩ = some (.int .u32 me)) (by kernel_rfl) (by kernel_rfl) (fun d _ _ _ _ h => by cases d <;> exact h) ?_
                repeat (first | (refine plan_skip rfl rfl ?_; simp only [List.getElem_toArray, List.getElem_cons_succ, List.getElem_cons_zero, Act.put, List.setIfInBounds_toArray, List.set_cons_zero, List.set_cons_succ]) | (refine plan_pass2 rfl rfl ?_; simp only [List.getElem_toArray, List.getElem_cons_succ, List.getElem_cons_zero, Act.put, List.setIfInBounds_toArray, List.set_cons_zero, List.set_cons_succ]) | (refine plan_pass3 rfl rfl ?_; simp only [List.getElem_toArray, List.getElem_cons_succ, List.getElem_cons_zero, Act.put, List.setIfInBounds_toArray, List.set_cons_zero, List.set_cons_succ]) | (refine plan_take (v := ?_) rfl rfl ?_ ?_; rotate_left; (focus (intro w0; go_simp; try with_reducible rfl)); simp only [List.getElem_toArray, List.getElem_cons_succ, List.getElem_cons_zero, Act.put, List.setIfInBounds_toArray, List.set_cons_zero, List.set_cons_succ]) | (refine plan_held (v := ?_) rfl rfl hS7 ?_ ?_; rotate_left; (focus (intro w0 hSw; (try dsimp only at hSw); go_split_ands; go_simp; try with_reducible rfl)); simp only [List.getElem_toArray, List.getElem_cons_succ, List.getElem_cons_zero, Act.put, List.setIfInBounds_toArray, List.set_cons_zero, List.set_cons_succ])  | (refine plan_skip1 rfl rfl hS7 ?_; simp only [List.getElem_toArray, List.getElem_cons_succ, List.getElem_cons_zero, Act.put, List.setIfInBounds_toArray, List.set_cons_zero, List.set_cons_succ]))
                try simp only [hbe]
                repeat (first | (refine plan_skip rfl rfl ?_; simp only [List.getElem_toArray, List.getElem_cons_succ, List.getElem_cons_zero, Act.put, List.setIfInBounds_toArray, List.set_cons_zero, List.set_cons_succ]) | (refine plan_pass2 rfl rfl ?_; simp only [List.getElem_toArray, List.getElem_cons_succ, List.getElem_cons_zero, Act.put, List.setIfInBounds_toArray, List.set_cons_zero, List.set_cons_succ]) | (refine plan_pass3 rfl rfl ?_; simp only [List.getElem_toArray, List.getElem_cons_succ, List.getElem_cons_zero, Act.put, List.setIfInBounds_toArray, List.set_cons_zero, List.set_cons_succ]) | (refine plan_take (v := ?_) rfl rfl ?_ ?_; rotate_left; (focus (intro w0; go_simp; try with_reducible rfl)); simp only [List.getElem_toArray, List.getElem_cons_succ, List.getElem_cons_zero, Act.put, List.setIfInBounds_toArray, List.set_cons_zero, List.set_cons_succ]) | (refine plan_held (v := ?_) rfl rfl hS7 ?_ ?_; rotate_left; (focus (intro w0 hSw; (try dsimp only at hSw); go_split_ands; go_simp; try with_reducible rfl)); simp only [List.getElem_toArray, List.getElem_cons_succ, List.getElem_cons_zero, Act.put, List.setIfInBounds_toArray, List.set_cons_zero, List.set_cons_succ])  | (refine plan_skip1 rfl rfl hS7 ?_; simp only [List.getElem_toArray, List.getElem_cons_succ, List.getElem_cons_zero, Act.put, List.setIfInBounds_toArray, List.set_cons_zero, List.set_cons_succ]))
                refine plan_nil ?_
                clear hS7
                have HPB4 : Hid (Blk wA.drew.drew.drew.drew pb 65 [.int .i64 mn, .bool true, .int .u32 me, .int .i64 mk, .int .u32 ma, .int .u32 ms, .string mb]) := Lib.hid HPB.out
                have kq0 := HPB4.out.cell (j := 0) rfl
                have kq1 := HPB4.out.cell (j := 1) rfl
                have kq2 := HPB4.out.cell (j := 2) rfl
                have kq3 := HPB4.out.cell (j := 3) rfl
                have kq4 := HPB4.out.cell (j := 4) rfl
                have kq5 := HPB4.out.cell (j := 5) rfl
                have kq6 := HPB4.out.cell (j := 6) rfl
                go_wp2_with fail
                clear kq0 kq1 kq2 kq3 kq4 kq5 kq6
                rw [← HCS.out]
                have HMD := Lib.hid (HM.out.drew.drew.drew.drew)
                refine (hear_any (vbo mn) (fun k => c k = .inl mn ∧ k < w.heap.size) L M _ (((HH.out.life HN.out).2.mono fun k a b => ⟨a, b⟩).keep HMD.out fun _ _ f => f) HOK.out).mono ?_; rintro e w5 ⟨v5, rfl, hv5, hl5, hm5⟩
                have HV5 := Lib.hid hv5
                have HL5 := Lib.hid hl5
                have HM5 := Lib.hid hm5
                clear hv5 hl5 hm5
                go_wp2
                go_ret3
                rw [HE.out]
                have hsA := HM.out.size
                have hmt : Mod (fun k => c k = .inl mn) w w5 := (HMD.out.mono (G := fun k => c k = .inl mn) fun _ f => f.elim).trans HM5.out fun k hk => .inl hk.1
                have hset := HH.out.set HN.out (L' := (L.hear M).2) ((Life.hear_node L M).trans HLN.out) (HL5.out.mono fun k hk _ => by
                  rcases hk with hk | hk
                  · exact .inl hk.1
                  · have hk2 : wA.heap.size ≤ k := hk; exact .inr (by omega)) hmt
                exact ⟨_, _, rfl, HV5.out.mono fun k hk => by have hk2 : wA.heap.size ≤ k := hk; show w.heap.size ≤ k; omega, Row.nil _ _ _ _, ⟨km, gm, _, _, hset, fun k hk => by
                  by_cases hl : w.heap.size ≤ k
                  · exact .inr hl
                  · rw [dyed_old (by omega)] at hk; exact .inl (HC.out k hk)⟩, hmt.mono fun k hk => .inl (HC.out k (by rw [hk]; simp))⟩
              · have hbe : (L.epoch != me) = true := by simp [hee]
                have HE : Hid (hubHear l G M = (false, [], [], l)) := Lib.hid (by unfold hubHear; rw [if_neg HND.out, if_neg HG.out.2, HG.out.1.1, HN.out, HG.out.1.2]; exact (if_neg (show ¬ 0 < Sr.gap L.epoch me from Int.not_lt.2 HGP.out)).trans (if_pos hee))
                clear hee
                go_wp2_with fail
                refine wp_region_plan [] [(0, 0), (1, 0), (2, 0), (3, 1), (4, 0), (5, 1), (6, 0), (7, 0)] (fun w' : World => w'.cell? ⟨vbo mn, 2, none⟩ = some (.int .u32 L.epoch) ∧ w'.cell? ⟨pb, 2, none⟩ = some (.int .u32 me)) (by kernel_rfl) (by kernel_rfl) (fun d _ _ _ _ h => by cases d <;> exact h) ?_
                repeat (first | (refine plan_skip rfl rfl ?_; simp only [List.getElem_toArray, List.getElem_cons_succ, List.getElem_cons_zero, Act.put, List.setIfInBounds_toArray, List.set_cons_zero, List.set_cons_succ]) | (refine plan_pass2 rfl rfl ?_; simp only [List.getElem_toArray, List.getElem_cons_succ, List.getElem_cons_zero, Act.put, List.setIfInBounds_toArray, List.set_cons_zero, List.set_cons_succ]) | (refine plan_pass3 rfl rfl ?_; simp only [List.getElem_toArray, List.getElem_cons_succ, List.getElem_cons_zero, Act.put, List.setIfInBounds_toArray, List.set_cons_zero, List.set_cons_succ]) | (refine plan_take (v := ?_) rfl rfl ?_ ?_; rotate_left; (focus (intro w0; go_simp; try with_reducible rfl)); simp only [List.getElem_toArray, List.getElem_cons_succ, List.getElem_cons_zero, Act.put, List.setIfInBounds_toArray, List.set_cons_zero, List.set_cons_succ]) | (refine plan_held (v := ?_) rfl rfl hS7 ?_ ?_; rotate_left; (focus (intro w0 hSw; (try dsimp only at hSw); go_split_ands; go_simp; try with_reducible rfl)); simp only [List.getElem_toArray, List.getElem_cons_succ, List.getElem_cons_zero, Act.put, List.setIfInBounds_toArray, List.set_cons_zero, List.set_cons_succ])  | (refine plan_skip1 rfl rfl hS7 ?_; simp only [List.getElem_toArray, List.getElem_cons_succ, List.getElem_cons_zero, Act.put, List.setIfInBounds_toArray, List.set_cons_zero, List.set_cons_succ]))
                try simp only [hbe]
                repeat (first | (refine plan_skip rfl rfl ?_; simp only [List.getElem_toArray, List.getElem_cons_succ, List.getElem_cons_zero, Act.put, List.setIfInBounds_toArray, List.set_cons_zero, List.set_cons_succ]) | (refine plan_pass2 rfl rfl ?_; simp only [List.getElem_toArray, List.getElem_cons_succ, List.getElem_cons_zero, Act.put, List.setIfInBounds_toArray, List.set_cons_zero, List.set_cons_succ]) | (refine plan_pass3 rfl rfl ?_; simp only [List.getElem_toArray, List.getElem_cons_succ, List.getElem_cons_zero, Act.put, List.setIfInBounds_toArray, List.set_cons_zero, List.set_cons_succ]) | (refine plan_take (v := ?_) rfl rfl ?_ ?_; rotate_left; (focus (intro w0; go_simp; try with_reducible rfl)); simp only [List.getElem_toArray, List.getElem_cons_succ, List.getElem_cons_zero, Act.put, List.setIfInBounds_toArray, List.set_cons_zero, List.set_cons_succ]) | (refine plan_held (v := ?_) rfl rfl hS7 ?_ ?_; rotate_left; (focus (intro w0 hSw; (try dsimp only at hSw); go_split_ands; go_simp; try with_reducible rfl)); simp only [List.getElem_toArray, List.getElem_cons_succ, List.getElem_cons_zero, Act.put, List.setIfInBounds_toArray, List.set_cons_zero, List.set_cons_succ])  | (refine plan_skip1 rfl rfl hS7 ?_; simp only [List.getElem_toArray, List.getElem_cons_succ, List.getElem_cons_zero, Act.put, List.setIfInBounds_toArray, List.set_cons_zero, List.set_cons_succ]))
                refine plan_nil ?_
                clear hS7
                go_wp2
                go_ret3
                rw [HE.out]
                exact hear_none HAT.out (HM.out.drew.drew.drew.drew)

        · have HG : Hid ((M.node = mn ∧ M.epoch = me) ∧ (G M.node).any (fun e => !decide (0 < Sr.gap e M.epoch)) = true) := Lib.hid (by rw [HMM.out]; exact ⟨⟨rfl, rfl⟩, by show (G mn).any (fun e => !decide (0 < Sr.gap e me)) = true; rw [hg]; simpa using hgp⟩)
          have hdg : decide (0 < Sr.gap eg me) = false := decide_eq_false hgp
          clear hg hgp
          refine wp_region_plan [] [(0, 0), (1, 0), (2, 0), (3, 1), (4, 0), (5, 1), (6, 1), (7, 0), (8, 0), (9, 0), (10, 0), (11, 0)] (fun w' : World => w'.cell? ⟨hb, 1, none⟩ = some (.map (some gm)) ∧ w'.cell? ⟨pb, 0, none⟩ = some (.int .i64 mn) ∧ KM w' gm (GV G)) (by kernel_rfl) (by kernel_rfl) (fun d _ _ _ _ h => by cases d <;> exact h) ?_
          repeat (first | (refine plan_skip rfl rfl ?_; simp only [List.getElem_toArray, List.getElem_cons_succ, List.getElem_cons_zero, Act.put, List.setIfInBounds_toArray, List.set_cons_zero, List.set_cons_succ]) | (refine plan_pass2 rfl rfl ?_; simp only [List.getElem_toArray, List.getElem_cons_succ, List.getElem_cons_zero, Act.put, List.setIfInBounds_toArray, List.set_cons_zero, List.set_cons_succ]) | (refine plan_pass3 rfl rfl ?_; simp only [List.getElem_toArray, List.getElem_cons_succ, List.getElem_cons_zero, Act.put, List.setIfInBounds_toArray, List.set_cons_zero, List.set_cons_succ]) | (refine plan_take (v := ?_) rfl rfl ?_ ?_; rotate_left; (focus (intro w0; go_simp; try with_reducible rfl)); simp only [List.getElem_toArray, List.getElem_cons_succ, List.getElem_cons_zero, Act.put, List.setIfInBounds_toArray, List.set_cons_zero, List.set_cons_succ]) | (refine plan_held (v := ?_) rfl rfl hS ?_ ?_; rotate_left; (focus (intro w0 hSw; (try dsimp only at hSw); go_split_ands; go_simp; try with_reducible rfl)); simp only [List.getElem_toArray, List.getElem_cons_succ, List.getElem_cons_zero, Act.put, List.setIfInBounds_toArray, List.set_cons_zero, List.set_cons_succ])  | (refine plan_skip1 rfl rfl hS ?_; simp only [List.getElem_toArray, List.getElem_cons_succ, List.getElem_cons_zero, Act.put, List.setIfInBounds_toArray, List.set_cons_zero, List.set_cons_succ]))
          (refine plan_held (v := .tuple #[.int .u32 eg, .bool true]) rfl rfl hS (fun w0 h0 => by rw [h0.2.2.exec_lookup (P := Try.prog) Try.underlying113 Try.underlying3 zeroU32 rfl rfl rfl, HGV.out]; rfl) ?_; try simp only [List.getElem_toArray, List.getElem_cons_succ, List.getElem_cons_zero, Act.put, List.setIfInBounds_toArray, List.set_cons_zero, List.set_cons_succ])
          repeat (first | (refine plan_skip rfl rfl ?_; simp only [List.getElem_toArray, List.getElem_cons_succ, List.getElem_cons_zero, Act.put, List.setIfInBounds_toArray, List.set_cons_zero, List.set_cons_succ]) | (refine plan_pass2 rfl rfl ?_; simp only [List.getElem_toArray, List.getElem_cons_succ, List.getElem_cons_zero, Act.put, List.setIfInBounds_toArray, List.set_cons_zero, List.set_cons_succ]) | (refine plan_pass3 rfl rfl ?_; simp only [List.getElem_toArray, List.getElem_cons_succ, List.getElem_cons_zero, Act.put, List.setIfInBounds_toArray, List.set_cons_zero, List.set_cons_succ]) | (refine plan_take (v := ?_) rfl rfl ?_ ?_; rotate_left; (focus (intro w0; go_simp; try with_reducible rfl)); simp only [List.getElem_toArray, List.getElem_cons_succ, List.getElem_cons_zero, Act.put, List.setIfInBounds_toArray, List.set_cons_zero, List.set_cons_succ]) | (refine plan_held (v := ?_) rfl rfl hS ?_ ?_; rotate_left; (focus (intro w0 hSw; (try dsimp only at hSw); go_split_ands; go_simp; try with_reducible rfl)); simp only [List.getElem_toArray, List.getElem_cons_succ, List.getElem_cons_zero, Act.put, List.setIfInBounds_toArray, List.set_cons_zero, List.set_cons_succ])  | (refine plan_skip1 rfl rfl hS ?_; simp only [List.getElem_toArray, List.getElem_cons_succ, List.getElem_cons_zero, Act.put, List.setIfInBounds_toArray, List.set_cons_zero, List.set_cons_succ]))
          refine plan_nil ?_
          have kb2 : wA.drew.cell? ⟨pb, 2, none⟩ = some (.int .u32 me) := HPB.out.cell rfl
          go_wp2_with (go_at_call 78; refine (Less_any _ _ _).mono ?_; rintro e w' ⟨rfl, rfl⟩; rw [hdg])
          clear kb2
          have HE : Hid (hubHear l G M = (false, [], [M.refuse], l)) := Lib.hid (by unfold hubHear; rw [if_neg HND.out, if_pos HG.out.2])
          have hS5 : wA.drew.drew.cell? ⟨pb, 0, none⟩ = some (.int .i64 mn) ∧ wA.drew.drew.cell? ⟨pb, 2, none⟩ = some (.int .u32 me) := ⟨HPB.out.cell rfl, HPB.out.cell rfl⟩
          clear hS c0
          refine wp_region_plan [] [(0, 0), (1, 1), (2, 0), (3, 1), (4, 0), (6, 0), (7, 0), (5, 2), (8, 0)] (fun w' : World => w'.cell? ⟨pb, 0, none⟩ = some (.int .i64 mn) ∧ w'.cell? ⟨pb, 2, none⟩ = some (.int .u32 me)) (by kernel_rfl) (by kernel_rfl) (fun d _ _ _ _ h => by cases d <;> exact h) ?_
          repeat (first | (refine plan_skip rfl rfl ?_; simp only [List.getElem_toArray, List.getElem_cons_succ, List.getElem_cons_zero, Act.put, List.setIfInBounds_toArray, List.set_cons_zero, List.set_cons_succ]) | (refine plan_pass2 rfl rfl ?_; simp only [List.getElem_toArray, List.getElem_cons_succ, List.getElem_cons_zero, Act.put, List.setIfInBounds_toArray, List.set_cons_zero, List.set_cons_succ]) | (refine plan_pass3 rfl rfl ?_; simp only [List.getElem_toArray, List.getElem_cons_succ, List.getElem_cons_zero, Act.put, List.setIfInBounds_toArray, List.set_cons_zero, List.set_cons_succ]) | (refine plan_take (v := ?_) rfl rfl ?_ ?_; rotate_left; (focus (intro w0; go_simp; try with_reducible rfl)); simp only [List.getElem_toArray, List.getElem_cons_succ, List.getElem_cons_zero, Act.put, List.setIfInBounds_toArray, List.set_cons_zero, List.set_cons_succ]) | (refine plan_held (v := ?_) rfl rfl hS5 ?_ ?_; rotate_left; (focus (intro w0 hSw; (try dsimp only at hSw); go_split_ands; go_simp; try with_reducible rfl)); simp only [List.getElem_toArray, List.getElem_cons_succ, List.getElem_cons_zero, Act.put, List.setIfInBounds_toArray, List.set_cons_zero, List.set_cons_succ])  | (refine plan_skip1 rfl rfl hS5 ?_; simp only [List.getElem_toArray, List.getElem_cons_succ, List.getElem_cons_zero, Act.put, List.setIfInBounds_toArray, List.set_cons_zero, List.set_cons_succ]))
          (refine plan_do rfl rfl fun K hK => ?_; (try simp only [List.getElem_toArray, List.getElem_cons_succ, List.getElem_cons_zero]); go_simp; refine hK _ _ ⟨allocCell _ hS5.1, allocCell _ hS5.2⟩ ?_; clear hK K; try simp only [List.getElem_toArray, List.getElem_cons_succ, List.getElem_cons_zero, Act.put, List.setIfInBounds_toArray, List.set_cons_zero, List.set_cons_succ])
          repeat (first | (refine plan_skip rfl rfl ?_; simp only [List.getElem_toArray, List.getElem_cons_succ, List.getElem_cons_zero, Act.put, List.setIfInBounds_toArray, List.set_cons_zero, List.set_cons_succ]) | (refine plan_pass2 rfl rfl ?_; simp only [List.getElem_toArray, List.getElem_cons_succ, List.getElem_cons_zero, Act.put, List.setIfInBounds_toArray, List.set_cons_zero, List.set_cons_succ]) | (refine plan_pass3 rfl rfl ?_; simp only [List.getElem_toArray, List.getElem_cons_succ, List.getElem_cons_zero, Act.put, List.setIfInBounds_toArray, List.set_cons_zero, List.set_cons_succ]) | (refine plan_take (v := ?_) rfl rfl ?_ ?_; rotate_left; (focus (intro w0; go_simp; try with_reducible rfl)); simp only [List.getElem_toArray, List.getElem_cons_succ, List.getElem_cons_zero, Act.put, List.setIfInBounds_toArray, List.set_cons_zero, List.set_cons_succ]) | fail )
          refine plan_nil ?_
          go_wp2
          go_ret3
          rw [HE.out]
          have hr := Row.made (f := fun k => w.heap.size ≤ k) (cur := M.refuse.cells) (sz := 7) (n := 1) (g := wA.drew.drew.heap.size) (allocNew wA.drew.drew (.cells M.refuse.cells 65)) rfl (by unfold maxLen; omega) (by have := HM.out.size; show w.heap.size ≤ wA.heap.size; omega)
          have hx : M.refuse.cells = #[.int .i64 mn, .bool false, .int .u32 me, .int .i64 3, .int .u32 0, .int .u32 0, .string ⟨#[]⟩] := by rw [HMM.out]; rfl
          have hm := (HM.out.drew.drew).alloc (.cells M.refuse.cells 65)
          rw [hx] at hr hm
          exact ⟨_, _, rfl, Row.nil _ _ _ _, by rw [show MsgV.vals [M.refuse] = M.refuse.cells.toList by simp [MsgV.vals], hx]; exact hr, (HAT.out.keep hm fun _ _ f => f).mono fun k hk _ => .inl hk, hm.mono fun _ f => f.elim⟩
end Go.Proofs.Ytidkapanpieflaa
