/- The reference's sender: what it holds, and what its methods do. -/
import Derived.Test.YtidkapanpieflaaSnd
import Derived.Test.YtidkapanpieflaaReg
namespace Go.Proofs.Ytidkapanpieflaa
open Go.RowKit
set_option linter.unusedVariables false
set_option linter.unusedSimpArgs false
def clamp (n lo hi : Int) : Int := if n < lo then lo else if hi < n then hi else n
theorem refWithinN_any (n lo hi : Int) (w : World) : Calls Try.prog 66 #[.int .i64 n, .int .i64 lo, .int .i64 hi] w fun e w' => e = .returned (.int .i64 (clamp n lo hi)) ∧ w = w' := by
  by_cases h1 : n < lo
  · go_enter Try.func66, Try.ntmps66
    go_wp2
    go_ret
    exact ⟨ret_int (by unfold clamp; rw [if_pos h1]), rfl⟩
  · by_cases h2 : hi < n
    · go_enter Try.func66, Try.ntmps66
      go_wp2
      go_ret
      exact ⟨ret_int (by unfold clamp; rw [if_neg (by omega), if_pos (by omega)]), rfl⟩
    · go_enter Try.func66, Try.ntmps66
      go_wp2
      go_ret
      exact ⟨ret_int (by unfold clamp; rw [if_neg (by omega), if_neg (by omega)]), rfl⟩
theorem clamp_width (n : Int) : clamp n 1 64 = (Snd.width n : Int) := by
  unfold clamp Snd.width
  split <;> (try split) <;> omega
structure RefS where
  first : Int
  wide : Nat
  l : List ByteArray
  done : Nat
  sent : Nat
structure RefS.Ok (s : RefS) : Prop where
  f0 : 0 ≤ s.first
  f1 : s.first < 4294967296
  l1 : s.l.length ≤ 1099511627776
  d1 : s.done ≤ s.sent
  s1 : s.sent ≤ s.l.length
  s2 : s.sent ≤ s.done + s.wide
  w0 : 1 ≤ s.wide
  w1 : s.wide ≤ 64
def RefSAt (w : World) (p : Nat) (f : Nat → Prop) (s : RefS) : Prop :=
  s.Ok ∧ f p ∧ ∃ v, w.heap[p]? = some (.cells #[.int .u32 s.first, .int .i64 s.wide, v, .int .i64 s.done, .int .i64 s.sent] 56 (0, 0)) ∧ Row w f 9 1 v s.l.length (s.l.map .string)
theorem RefSAt.keep {w w' : World} {F f : Nat → Prop} {p : Nat} {s : RefS} (h : RefSAt w p f s) (hm : Mod F w w') (hd : ∀ k, f k → ¬ F k) : RefSAt w' p f s := by
  obtain ⟨h1, h2, v, h3, h4⟩ := h
  exact ⟨h1, h2, v, hm.keep h3 (hd p h2), h4.keep hm hd⟩
theorem RefSAt.clip {w : World} {f : Nat → Prop} {p : Nat} {s : RefS} (h : RefSAt w p f s) : RefSAt w p (fun k => f k ∧ k < w.heap.size) s := by
  obtain ⟨h1, h2, v, h3, h4⟩ := h
  exact ⟨h1, ⟨h2, lt_of_block h3⟩, v, h3, ⟨h4.1, fun g hg => ⟨h4.2 g hg, h4.lt g hg⟩⟩⟩
theorem NewS_any (first wide : Int) (w : World) (h0 : 0 ≤ first) (h1 : first < 4294967296) :
    Calls Try.prog 28 #[.int .u32 first, .int .i64 wide] w fun e w' => ∃ p, e = .returned (.pointer (some ⟨p, 0, none⟩)) ∧ RefSAt w' p (fun k => w.heap.size ≤ k) ⟨first, Snd.width wide, [], 0, 0⟩ ∧ Mod (fun _ => False) w w' := by
  have hc := clamp_width wide
  go_enter Try.func28, Try.ntmps28
  go_wp2_with (go_at_call 66; refine (refWithinN_any _ _ _ _).mono ?_; rintro e w' ⟨rfl, rfl⟩)
  go_ret
  exact ⟨_, rfl, ⟨⟨h0, h1, by simp, by simp, by simp, by simp, by show 1 ≤ Snd.width wide; unfold Snd.width; split <;> (try split) <;> omega, by show Snd.width wide ≤ 64; unfold Snd.width; split <;> (try split) <;> omega⟩, Nat.le_refl _, _, allocNew _ _, Row.nil _ _ _ _⟩, (Mod.refl _ _).alloc _⟩
def RefS.at_ (s : RefS) (i : Nat) : ByteArray := s.l.getD i ByteArray.empty
def RefS.pkts (s : RefS) (a n : Nat) : List Pkt := (List.range n).map fun j => ⟨Sr.add s.first ((a + j : Nat) : Int), s.at_ (a + j)⟩
theorem RefS.pkts_succ (s : RefS) (a n : Nat) : s.pkts a (n + 1) = s.pkts a n ++ [⟨Sr.add s.first ((a + n : Nat) : Int), s.at_ (a + n)⟩] := by simp [RefS.pkts, List.range_succ]
set_option maxRecDepth 100000 in
theorem from_any (p : Nat) (f : Nat → Prop) (s : RefS) (a b : Nat) (w : World) (h : RefSAt w p f s) (hab : a ≤ b) (hbl : b ≤ s.l.length) :
    Calls Try.prog 71 #[.pointer (some ⟨p, 0, none⟩), .int .i64 a, .int .i64 b] w fun e w' => ∃ v, e = .returned v ∧ Row w' (fun k => w.heap.size ≤ k) 36 2 v (b - a) (Pkt.vals (s.pkts a (b - a))) ∧ Mod (fun _ => False) w w' := by
  obtain ⟨hok, hp, v, hb, hr⟩ := h
  obtain ⟨ad, cap, rfl, hn, hc, hg⟩ := hr.form
  have c0 : w.cell? ⟨p, 0, none⟩ = some (.int .u32 s.first) := cellOf hb 0
  have c1 : w.cell? ⟨p, 2, none⟩ = some (.slice ad s.l.length cap) := cellOf hb 2
  have hlen := hok.l1
  have f0 := hok.f0
  have f1 := hok.f1
  have HR := Lib.hid hr
  have HG := Lib.hid hg
  have hpw := lt_of_block hb
  clear hr hg hb
  go_enter Try.func71, Try.ntmps71
  go_wp2
  go_loopw [7, 8] (fun v i wr => ∃ k : Nat, a ≤ k ∧ k ≤ b ∧ i = .int .i64 k ∧ Row wr (fun x => w.heap.size ≤ x) 36 2 v (k - a) (Pkt.vals (s.pkts a (k - a))) ∧ Mod (fun _ => False) w wr) (fun _ i _ => b - (intOf i).toNat)
  case atStart => exact ⟨a, Nat.le_refl _, hab, rfl, by simp [RefS.pkts, Pkt.vals]; exact Row.made (cur := #[]) (allocNew w _) rfl (by unfold maxLen; omega) (Nat.le_refl _), (Mod.refl _ _).alloc _⟩
  case round =>
    obtain ⟨k, hk1, hk2, rfl, hrow, hmod⟩ := hrel
    obtain ⟨ao, co, rfl, hno, hco, hgo⟩ := hrow.form
    by_cases hlt : k < b
    · obtain ⟨g, rfl, hfg, hlg, hcg⟩ := HG.out (by omega)
      have c2 : w.cell? ⟨g, k, none⟩ = some (.string (s.at_ k)) := hcg k _ (by simp [RefS.at_, List.getD, List.getElem?_eq_getElem (show k < s.l.length by omega)])
      have d0 := hmod.cell (fun f => f) c0
      have d1 := hmod.cell (fun f => f) c1
      have d2 := hmod.cell (fun f => f) c2
      have n0 : ∀ q, q < w.heap.size → ¬ (Value.slice ao (k - a) co).ownBlock = some q := fun q hq e => by have := hrow.2 q e; omega
      have n1 := n0 p hpw
      have n2 := n0 g hlg
      have hki : (k : Int) < (s.l.length : Int) := by omega
      have HRW := Lib.hid hrow
      clear hrow n0 hgo hcg c0 c1 c2
      have hS : wr.drew.cell? ⟨p, 0, none⟩ = some (.int .u32 s.first) ∧ wr.drew.cell? ⟨p, 2, none⟩ = some (.slice (some ⟨g, 0, none⟩) s.l.length cap) ∧ wr.drew.cell? ⟨g, k, none⟩ = some (.string (s.at_ k)) := ⟨d0, d1, d2⟩
      go_wp2
      refine wp_region_plan [] [(0, 0), (1, 0), (2, 0), (3, 0), (4, 1), (5, 0), (7, 0), (8, 0), (9, 0), (10, 1), (11, 0), (12, 0), (13, 1), (6, 2), (14, 0), (15, 2), (16, 2), (17, 0)] (fun w' : World => w'.cell? ⟨p, 0, none⟩ = some (.int .u32 s.first) ∧ w'.cell? ⟨p, 2, none⟩ = some (.slice (some ⟨g, 0, none⟩) s.l.length cap) ∧ w'.cell? ⟨g, k, none⟩ = some (.string (s.at_ k))) (by kernel_rfl) (by kernel_rfl) (fun d _ _ _ _ h => by cases d <;> exact h) ?_
      repeat (first | (refine plan_skip rfl rfl ?_; simp only [List.getElem_toArray, List.getElem_cons_succ, List.getElem_cons_zero, Act.put, List.setIfInBounds_toArray, List.set_cons_zero, List.set_cons_succ]) | (refine plan_pass2 rfl rfl ?_; simp only [List.getElem_toArray, List.getElem_cons_succ, List.getElem_cons_zero, Act.put, List.setIfInBounds_toArray, List.set_cons_zero, List.set_cons_succ]) | (refine plan_pass3 rfl rfl ?_; simp only [List.getElem_toArray, List.getElem_cons_succ, List.getElem_cons_zero, Act.put, List.setIfInBounds_toArray, List.set_cons_zero, List.set_cons_succ]) | (refine plan_take (v := ?_) rfl rfl ?_ ?_; rotate_left; (focus (intro w0; go_simp; try with_reducible rfl)); simp only [List.getElem_toArray, List.getElem_cons_succ, List.getElem_cons_zero, Act.put, List.setIfInBounds_toArray, List.set_cons_zero, List.set_cons_succ]) | (refine plan_held (v := ?_) rfl rfl hS ?_ ?_; rotate_left; (focus (intro w0 hSw; (try dsimp only at hSw); go_split_ands; go_simp; try with_reducible rfl)); simp only [List.getElem_toArray, List.getElem_cons_succ, List.getElem_cons_zero, Act.put, List.setIfInBounds_toArray, List.set_cons_zero, List.set_cons_succ])  | (refine plan_skip1 rfl rfl hS ?_; simp only [List.getElem_toArray, List.getElem_cons_succ, List.getElem_cons_zero, Act.put, List.setIfInBounds_toArray, List.set_cons_zero, List.set_cons_succ]))
      (refine plan_do rfl rfl fun K hK => ?_; (try simp only [List.getElem_toArray, List.getElem_cons_succ, List.getElem_cons_zero]); go_simp; refine (refAdd_any _ _ (by omega) (by omega) (by omega) (by omega) _).mono ?_; rintro e w' ⟨rfl, rfl⟩; refine hK _ _ ⟨d0, d1, d2⟩ ?_; clear hK K; try simp only [List.getElem_toArray, List.getElem_cons_succ, List.getElem_cons_zero, Act.put, List.setIfInBounds_toArray, List.set_cons_zero, List.set_cons_succ])
      repeat (first | (refine plan_skip rfl rfl ?_; simp only [List.getElem_toArray, List.getElem_cons_succ, List.getElem_cons_zero, Act.put, List.setIfInBounds_toArray, List.set_cons_zero, List.set_cons_succ]) | (refine plan_pass2 rfl rfl ?_; simp only [List.getElem_toArray, List.getElem_cons_succ, List.getElem_cons_zero, Act.put, List.setIfInBounds_toArray, List.set_cons_zero, List.set_cons_succ]) | (refine plan_pass3 rfl rfl ?_; simp only [List.getElem_toArray, List.getElem_cons_succ, List.getElem_cons_zero, Act.put, List.setIfInBounds_toArray, List.set_cons_zero, List.set_cons_succ]) | (refine plan_take (v := ?_) rfl rfl ?_ ?_; rotate_left; (focus (intro w0; go_simp; try with_reducible rfl)); simp only [List.getElem_toArray, List.getElem_cons_succ, List.getElem_cons_zero, Act.put, List.setIfInBounds_toArray, List.set_cons_zero, List.set_cons_succ]) | (refine plan_held (v := ?_) rfl rfl hS ?_ ?_; rotate_left; (focus (intro w0 hSw; (try dsimp only at hSw); go_split_ands; go_simp; try with_reducible rfl)); simp only [List.getElem_toArray, List.getElem_cons_succ, List.getElem_cons_zero, Act.put, List.setIfInBounds_toArray, List.set_cons_zero, List.set_cons_succ])  | (refine plan_skip1 rfl rfl hS ?_; simp only [List.getElem_toArray, List.getElem_cons_succ, List.getElem_cons_zero, Act.put, List.setIfInBounds_toArray, List.set_cons_zero, List.set_cons_succ]))
      (refine plan_do rfl rfl fun K hK => ?_; (try simp only [List.getElem_toArray, List.getElem_cons_succ, List.getElem_cons_zero]); go_simp; refine hK _ _ ⟨allocCell _ d0, allocCell _ d1, allocCell _ d2⟩ ?_; clear hK K; try simp only [List.getElem_toArray, List.getElem_cons_succ, List.getElem_cons_zero, Act.put, List.setIfInBounds_toArray, List.set_cons_zero, List.set_cons_succ])
      (refine plan_do rfl rfl fun K hK => ?_; try simp only [List.getElem_toArray, List.getElem_cons_succ, List.getElem_cons_zero])
      refine wp_append_one Try.elPkt (.tmp 16) (.tmp 31) rfl #[.int .u32 (Sr.add s.first k), .string (s.at_ k)] _ _ _ _ (HRW.out.alloc _).drew wr.heap.size (allocNew wr _) rfl rfl rfl (by simp [Value.oneCell']) (by omega) (by unfold maxLen; omega) ?_
      intro v1 w1 hr1 hm1
      replace hm1 := Mod.allocDrew hm1
      obtain ⟨a1, cap1, rfl, hn1, hc1, hg1⟩ := hr1.form
      refine hK _ _ ⟨hm1.cell n1 d0, hm1.cell n1 d1, hm1.cell n2 d2⟩ ?_
      clear hK K
      try simp only [List.getElem_toArray, List.getElem_cons_succ, List.getElem_cons_zero, Act.put, List.setIfInBounds_toArray, List.set_cons_zero, List.set_cons_succ]
      have HM1 := Lib.hid hm1
      have HR1 := Lib.hid hr1
      clear hm1 hr1 hg1 d0 d1 d2 hS
      repeat (first | (refine plan_skip rfl rfl ?_; simp only [List.getElem_toArray, List.getElem_cons_succ, List.getElem_cons_zero, Act.put, List.setIfInBounds_toArray, List.set_cons_zero, List.set_cons_succ]) | (refine plan_pass2 rfl rfl ?_; simp only [List.getElem_toArray, List.getElem_cons_succ, List.getElem_cons_zero, Act.put, List.setIfInBounds_toArray, List.set_cons_zero, List.set_cons_succ]) | (refine plan_pass3 rfl rfl ?_; simp only [List.getElem_toArray, List.getElem_cons_succ, List.getElem_cons_zero, Act.put, List.setIfInBounds_toArray, List.set_cons_zero, List.set_cons_succ]) | (refine plan_take (v := ?_) rfl rfl ?_ ?_; rotate_left; (focus (intro w0; go_simp; try with_reducible rfl)); simp only [List.getElem_toArray, List.getElem_cons_succ, List.getElem_cons_zero, Act.put, List.setIfInBounds_toArray, List.set_cons_zero, List.set_cons_succ]) | fail )
      refine plan_nil ?_
      go_wp2
      go_roundw
      case rel =>
        refine ⟨k + 1, by omega, by omega, by go_num, ?_, hmod.trans HM1.out fun x hx => .inr (HRW.out.2 x hx)⟩
        have e1 : k + 1 - a = k - a + 1 := by omega
        rw [e1, RefS.pkts_succ, Pkt.vals_snoc, show a + (k - a) = k by omega]
        exact HR1.out.mono fun x hx => hx.elim id (fun h => Nat.le_trans hmod.size (allocLe h))
      case measure => simp [intOf]; omega
    · have : k = b := by omega
      subst this
      go_wp2
      go_ret
      exact ⟨_, rfl, hrow, hmod⟩
end Go.Proofs.Ytidkapanpieflaa
