/- table.Read: contract. -/
import Derived.Test.YtegjamjognpdkaaRdF
import Derived.Test.YtegjamjognpdkaaBldS
namespace Go.Proofs.Ytegjamjognpdkaa
open Go.RowKit
set_option linter.unusedVariables false
set_option linter.unusedSimpArgs false
theorem Row.uniq {w : World} {f f' : Nat → Prop} {e : TypeId} {sz n : Nat} {v : Value} {xs ys : List Value} (h : Row w f e sz v n xs) (g : Row w f' e sz v n ys) : xs = ys := by
  obtain ⟨⟨hl, h1⟩, _⟩ := h
  obtain ⟨⟨gl, g1⟩, _⟩ := g
  rcases h1 with ⟨rfl, rfl⟩ | ⟨b, cap, cur, rfl, _, hb, _, _, _, ht⟩
  · have e1 : xs = [] := List.eq_nil_of_length_eq_zero (by simpa using hl)
    have e2 : ys = [] := List.eq_nil_of_length_eq_zero (by simpa using gl)
    rw [e1, e2]
  · rcases g1 with ⟨e1, _⟩ | ⟨b', cap', cur', e1, _, hb', _, _, _, ht'⟩
    · cases e1
    · injection e1 with e2 _ _
      injection e2 with e3
      injection e3 with e4
      subst e4
      rw [hb] at hb'
      injection hb' with e5
      injection e5 with e6
      subst e6
      rw [← ht, ← ht']
theorem ReadJ.calm {s : ByteArray} {b0 p n j : Nat} {w wr w2 : World} {v : Value} {is bad : Bool} (h : ReadJ s b0 p w wr v is n bad j) (hm : Mod (fun _ => False) wr w2) : ReadJ s b0 p w w2 v is n bad j := by
  obtain ⟨a, h1, h2, h3⟩ := h.rd
  obtain ⟨xs, hx⟩ := h.row
  refine ⟨⟨a, h1.keep hm fun f => f, h2, h3⟩, h.mod.trans hm fun _ f => f.elim, ⟨xs, hx.keep hm fun _ _ f => f⟩, h.le, h.more, fun hb => ?_, h.stop⟩
  obtain ⟨g1, sv, g2⟩ := h.good hb
  exact ⟨g1, sv, g2.keep hm fun _ _ f => f⟩
theorem read_round {s : ByteArray} {b0 n j a a' : Nat} {w w3 w5 w6 w10 : World} {v v' : Value} {is is1 bad : Bool} {cs xs5 : List Value} {ob : Obj} (hb0 : b0 = w.heap.size) (hpa : a = (st s j).p) (hlt : a < s.size) (hs : s.size ≤ 1000) (hJ : ReadJ s b0 b0 w w3 v is n false j) (hR : RowR s a w3.heap.size w5 cs is1 a' bad) (hd : RdAt w5 b0 s a' bad)
    (hm5 : Mod (fun k => k = b0) w3 w5) (hm6 : Mod (fun k => k = w5.heap.size) (w5.alloc ob) w6) (hx6 : Row w6 (fun k => b0 < k) 38 20 v n xs5) (hR10 : Row w10 (fun k => b0 < k ∨ (w6.alloc (.cells cs.toArray 38 (0, 0))).heap.size ≤ k) 38 20 v' (n + 1) (xs5 ++ cs.toArray.toList)) (hm10 : Mod (fun k => v.ownBlock = some k) (w6.alloc (.cells cs.toArray 38 (0, 0))) w10) :
    (∃ j', ReadJ s b0 b0 w w10 v' (is && is1) (n + 1) bad j') ∧ n + 1 ≤ 101 := by
  have hlt5 : b0 < w5.heap.size := lt_of_block hd
  have hsz : w5.heap.size ≤ w6.heap.size := Nat.le_trans (by simp) hm6.size
  have hm3 : Mod (fun _ => False) w5 (w6.alloc (.cells cs.toArray 38 (0, 0))) := (((Mod.refl _ _).alloc _).trans hm6 fun x hx => .inr (by omega)).alloc _
  refine hJ.next hb0 hpa hlt hR hd hm5 hm3 (fun xs hx => ?_) hm10 hs
  obtain rfl := Row.uniq hx (hx6.alloc (.cells cs.toArray 38 (0, 0)))
  exact hR10.mono fun y hy => hy.elim id fun h => by have := allocLe h; omega
set_option maxRecDepth 100000 in
set_option maxHeartbeats 2000000 in
theorem Read_any (s : ByteArray) (hs : s.size ≤ 1000) (w : World) :
    Calls Try.prog 14 #[.string s] w fun e w' => ∃ (j : Nat) (v : Value) (c : Int), e = .returned (.tuple #[v, .int .i64 c]) ∧ ¬ More s (st s j) ∧ ReadR s (st s j) w' v c ∧ Mod (fun _ => False) w w' := by
  have HRS := Lib.hid rowSz
  obtain ⟨b0, hb0⟩ : ∃ b0, b0 = w.heap.size := ⟨_, rfl⟩
  have HB0 := Lib.hid hb0
  go_enter Try.func14, Try.ntmps14
  go_wp2_with fail
  refine (new_any s _).mono ?_; rintro e w1 ⟨rfl, hR, hM⟩
  rw [← hb0] at hR ⊢
  have HJ0 : Hid (ReadJ s b0 b0 w w1 (.slice none 0 0) true 0 false 0) := Lib.hid ⟨⟨0, hR, Nat.zero_le _, fun _ => rfl⟩, hM, ⟨[], Row.nil _ _ _ _⟩, by omega, fun m hm => by omega, fun _ => ⟨rfl, fun _ => .slice none 0 0, RowsOwn.nil _ _ _⟩, fun e => (by cases e)⟩
  clear hR hM hb0
  go_wp2_with fail
  go_loopw [4, 6] (fun v b wr => ∃ (is : Bool) (n : Nat) (bad : Bool) (j : Nat), b = .bool is ∧ ReadJ s b0 b0 w wr v is n bad j) (fun v _ _ => 200 - lenV v)
  case atStart => exact ⟨true, 0, false, 0, rfl, HJ0.out⟩
  case round =>
    obtain ⟨is, n, bad, j, rfl, hJ⟩ := hrel
    obtain ⟨a, hrd, hle, hpa⟩ := hJ.rd
    obtain ⟨xs0, hx0⟩ := hJ.row
    obtain ⟨ad, cp, rfl, hnc, hcm, _⟩ := hx0.form
    have HJ := Lib.hid hJ
    have HP := Lib.hid hpa
    have HX := Lib.hid hx0
    have HRD := Lib.hid hrd
    clear hJ hpa hx0 hrd HJ0
    go_wp2_with fail
    refine (left_any _ HRD.out hle hs).mono ?_; rintro e w3 ⟨rfl, hm⟩
    have HJ3 := Lib.hid (HJ.out.calm hm)
    have HRD3 := Lib.hid (HRD.out.keep hm fun f => f)
    clear hm HJ HRD
    by_cases hlt : a < s.size
    · have hl0 : 0 < s.size - a := by omega
      have hl1 : (0 : Int) < ((s.size - a : Nat) : Int) := by omega
      go_wp2_with fail
      refine (bad_any _ HRD3.out).mono ?_; rintro e w4 ⟨rfl, rfl⟩
      cases bad with
      | false =>
        go_wp2_with fail
        refine (row_any _ HRD3.out hlt hs).mono ?_; rintro e w5 ⟨cs, is1, a', bad', rfl, hrd5, hm5, hR5⟩
        have HR5 := Lib.hid hR5
        have HD5 := Lib.hid hrd5
        have HM5 := Lib.hid hm5
        have HX5 := Lib.hid ((HJ3.out.row.elim fun ys hy => (⟨ys, hy.keep hm5 fun k hk e => by omega⟩ : ∃ ys, Row w5 (fun k => b0 < k) 38 20 (.slice ad n cp) n ys)))
        have HN5 := Lib.hid (Blk.new w5 38 (rowC 0 false z16 0 (.slice none 0 0)))
        have HCZ : Hid ((Try.prog.info? 38).map (·.size) = some cs.length) := Lib.hid (by rw [hR5.len]; exact HRS.out)
        clear hrd5 hm5 hR5
        obtain ⟨xs5, hx5⟩ := HX5.out
        have HXX := Lib.hid hx5
        have hn100 : n ≤ 101 := HJ3.out.le
        clear hx5 HX5
        go_wp2_with (first | (refine wpList_store_blk rfl _ _ _ rfl w5.heap.size 0 38 (rowC 0 false z16 0 (.slice none 0 0)) cs rfl rfl HN5.out (by rw [HR5.out.len, rowC_len _ _ _ _ _ rfl]; decide) HCZ.out HR5.out.one ?_; intro w6 HB6 HM6; have HB7 := Lib.hid (splice_all HB6.out (by rw [HR5.out.len, rowC_len _ _ _ _ _ rfl])); have HX6 := Lib.hid ((HXX.out.alloc (.cells (rowC 0 false z16 0 (.slice none 0 0)).toArray 38 (0, 0))).far HM6.out fun k hk e => by have := HXX.out.lt k hk; omega)) | (refine wpList_load_blk rfl _ _ rfl w5.heap.size 0 rfl 38 cs cs _ HB7.out (List.take_of_length_le (Nat.le_refl _)) Try.underlying38 rfl HCZ.out ?_) | (refine wpList_buildSlice1 Try.elRow rfl _ rfl cs rfl HR5.out.len (by decide) (by decide) ?_) | (at_builtin; refine wpList_append_one Try.elRow rfl (.tmp 24) (.tmp 26) rfl cs.toArray (fun k => b0 < k) (.slice ad n cp) n xs5 (HX6.out.alloc _) w6.heap.size (allocNew w6 _) rfl rfl (by simp [HR5.out.len]) (by simpa using HR5.out.one) (by omega) (by unfold maxLen; omega) ?_; intro v10 w10 hR10 hm10; obtain ⟨a10, c10, rfl, hn10, hc10, _⟩ := hR10.form; have HJ10 := Lib.hid (read_round HB0.out (HP.out trivial) hlt hs HJ3.out HR5.out HD5.out HM5.out HM6.out HX6.out hR10 hm10); clear hR10 hm10))
        all_goals
          obtain ⟨⟨j', hj'⟩, hn1⟩ := HJ10.out
          refine ⟨⟨(is && is1), _, _, j', ?_, hj'⟩, ?_⟩
          · cases is <;> first | rfl | simp_all
          · simp only [lenV]; omega
      | true =>
        have HST := Lib.hid (HJ3.out.stop rfl)
        go_wp2_with fail
        refine (bad_any _ HRD3.out).mono ?_; rintro e w4 ⟨rfl, rfl⟩
        go_wp2
        go_ret2
        exact ⟨j, _, _, rfl, HST.out.1, .short HST.out.2, HJ3.out.mod⟩
    · have hae : s.size - a = 0 := by omega
      go_wp2_with fail
      refine (bad_any _ HRD3.out).mono ?_; rintro e w4 ⟨rfl, rfl⟩
      cases bad with
      | true =>
        have HST := Lib.hid (HJ3.out.stop rfl)
        go_wp2
        go_ret2
        exact ⟨j, _, _, rfl, HST.out.1, .short HST.out.2, HJ3.out.mod⟩
      | false =>
        have hps : ¬ (st s j).p < s.size := by rw [← HP.out rfl]; exact hlt
        have HPS := Lib.hid hps
        obtain ⟨hg1, sv, hg2⟩ := HJ3.out.good rfl
        have HG1 := Lib.hid hg1
        have HG2 := Lib.hid hg2
        have HNM : Hid (¬ More s (st s j)) := Lib.hid fun h => hps h.1
        clear hps hg1 hg2
        cases is with
        | false =>
          go_wp2
          go_ret2
          exact ⟨j, _, _, rfl, HNM.out, .bad HPS.out (by rw [← HG1.out]; rfl), HJ3.out.mod⟩
        | true =>
          go_wp2_with fail
          refine (good_any _ (st s j).rs sv _ HG2.out.at).mono ?_; rintro e w5 ⟨rfl, hm5⟩
          obtain ⟨G, hG⟩ : ∃ G, G = goodT (st s j).rs := ⟨_, rfl⟩
          have HGG := Lib.hid hG
          rw [← hG]
          have HM5 := Lib.hid (HJ3.out.mod.trans hm5 fun _ f => f.elim)
          have HAT := Lib.hid (HG2.out.at.keep hm5)
          clear hG hm5
          cases G with
          | false =>
            go_wp2
            go_ret2
            exact ⟨j, _, _, rfl, HNM.out, .bad HPS.out (by rw [← HG1.out, ← HGG.out]; rfl), HM5.out⟩
          | true =>
            go_wp2
            go_ret2
            exact ⟨j, _, _, rfl, HNM.out, .good _ sv HPS.out (by rw [← HG1.out, ← HGG.out]; rfl) HAT.out, HM5.out⟩
end Go.Proofs.Ytegjamjognpdkaa
