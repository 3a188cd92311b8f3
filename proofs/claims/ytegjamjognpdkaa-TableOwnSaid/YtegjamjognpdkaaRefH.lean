/- The reference of rows: Compare, Good: contracts. -/
import Derived.Test.YtegjamjognpdkaaRefC
import Derived.Test.YtegjamjognpdkaaRowH
namespace Go.Proofs.Ytegjamjognpdkaa
open Go.RowKit
set_option linter.unusedVariables false
set_option linter.unusedSimpArgs false
set_option maxRecDepth 100000 in
set_option maxHeartbeats 2000000 in
theorem refCompare_any (r r' : TRow) (sv sv' : Value) (hb : adrOk r.b) (hb' : adrOk r'.b) (w : World) :
    Calls Try.prog 17 #[.agg (r.c sv).toArray, .agg (r'.c sv').toArray] w fun e w' => e = .returned (.int .i64 (cmpT r r')) ∧ Mod (fun _ => False) w w' := by
  have hA := Blk.alloc (Blk.new w 38 (r.c sv)) (.cells (r'.c sv').toArray 38 (0, 0))
  have hB := Blk.new (w.alloc (.cells (r.c sv).toArray 38 (0, 0))) 38 (r'.c sv')
  have hm : Mod (fun _ => False) w ((w.alloc (.cells (r.c sv).toArray 38 (0, 0))).alloc (.cells (r'.c sv').toArray 38 (0, 0))) := ((Mod.refl _ _).alloc _).alloc _
  rw [show (w.alloc (.cells (r.c sv).toArray 38 (0, 0))).heap.size = w.heap.size + 1 by simp] at hB
  have HO := Lib.hid hb
  have HO' := Lib.hid hb'
  have HS : Hid ((Try.prog.info? 36).map (·.size) = some (adrC r.v6 r.b).length) := Lib.hid (by rw [adrC_len, hb.1]; exact adrSz)
  have HS' : Hid ((Try.prog.info? 36).map (·.size) = some (adrC r'.v6 r'.b).length) := Lib.hid (by rw [adrC_len, hb'.1]; exact adrSz)
  have HCS := Lib.hid (rowC_adrs' r sv hb.1)
  have HCS' := Lib.hid (rowC_adrs' r' sv' hb'.1)
  obtain ⟨C, hC⟩ : ∃ C, C = r.c sv := ⟨_, rfl⟩
  obtain ⟨C', hC'⟩ : ∃ C', C' = r'.c sv' := ⟨_, rfl⟩
  have k0 : C[0]? = some (.int .i64 r.vlan) := by rw [hC]; exact rowC_0 ..
  have k0' : C'[0]? = some (.int .i64 r'.vlan) := by rw [hC']; exact rowC_0 ..
  have h18 : C[18]? = some (.int .i64 r.root) := by rw [hC]; exact rowC_18 _ _ _ _ _ hb.1
  have h18' : C'[18]? = some (.int .i64 r'.root) := by rw [hC']; exact rowC_18 _ _ _ _ _ hb'.1
  rw [← hC, ← hC'] at hA hB hm ⊢
  rw [← hC] at HCS
  rw [← hC'] at HCS'
  have H18 := Lib.hid h18
  have H18' := Lib.hid h18'
  have HA := Lib.hid hA
  have HB := Lib.hid hB
  have HM := Lib.hid hm
  clear hC hC' hb hb' hA hB hm h18 h18'
  rcases Int.lt_trichotomy r.vlan r'.vlan with hv | hv | hv
  · have HX : Hid (cmpT r r' = -1) := Lib.hid (by unfold cmpT or3; rw [show cmpI r.vlan r'.vlan = -1 from if_pos hv]; rfl)
    have hne : ¬ r.vlan = r'.vlan := by omega
    have hd : (r.vlan != r'.vlan) = true := by simp [hne]
    go_enter Try.func17, Try.ntmps17
    go_wp2
    go_ret
    exact ⟨by rw [HX.out]; rfl, HM.out⟩
  · have HV := Lib.hid hv
    have HX : Hid (cmpT r r' = or3 0 (cmpA r.v6 r.b r'.v6 r'.b) (cmpI r.root r'.root)) := Lib.hid (by unfold cmpT; rw [show cmpI r.vlan r'.vlan = 0 by unfold cmpI; rw [hv]; simp])
    have hd : (r.vlan != r'.vlan) = false := by simp [hv]
    clear hv
    go_enter Try.func17, Try.ntmps17
    go_wp2_with (first | (refine wpList_load_blk rfl _ _ rfl w.heap.size 1 rfl 38 C (adrC r.v6 r.b) _ HA.out HCS.out Try.underlying36 rfl HS.out ?_) | (refine wpList_load_blk rfl _ _ rfl (w.heap.size + 1) 1 rfl 38 C' (adrC r'.v6 r'.b) _ HB.out HCS'.out Try.underlying36 rfl HS'.out ?_))
    refine (refACmp_any _ _ _ _ HO.out.1 HO'.out.1 _).mono ?_; rintro e w1 ⟨rfl, hm⟩
    obtain ⟨c, hc⟩ : ∃ c, c = cmpA r.v6 r.b r'.v6 r'.b := ⟨_, rfl⟩
    rw [← hc]
    rw [← hc] at HX
    have HM1 := Lib.hid (HM.out.trans hm fun _ f => f.elim)
    have c18 : w1.cell? ⟨w.heap.size, 18, none⟩ = some (.int .i64 r.root) := (HA.out.keep hm fun f => f).cell H18.out
    have c18' : w1.cell? ⟨w.heap.size + 1, 18, none⟩ = some (.int .i64 r'.root) := (HB.out.keep hm fun f => f).cell H18'.out
    clear hm hc
    by_cases h0 : c = 0
    · subst h0
      rcases Int.lt_trichotomy r.root r'.root with hr | hr | hr
      · have HY : Hid (cmpT r r' = -1) := Lib.hid (by rw [HX.out]; unfold or3; rw [show cmpI r.root r'.root = -1 from if_pos hr]; rfl)
        go_wp2
        go_ret
        exact ⟨by rw [HY.out]; rfl, HM1.out⟩
      · have HY : Hid (cmpT r r' = 0) := Lib.hid (by rw [HX.out]; unfold or3; rw [show cmpI r.root r'.root = 0 by unfold cmpI; rw [hr]; simp]; rfl)
        have hn1 : decide (r.root < r'.root) = false := decide_eq_false (by omega)
        have hn2 : decide (r'.root < r.root) = false := decide_eq_false (by omega)
        have hn3 : ¬ r.root < r'.root := by omega
        have hn4 : ¬ r'.root < r.root := by omega
        clear hr
        go_wp2
        go_ret
        exact ⟨by rw [HY.out]; rfl, HM1.out⟩
      · have HY : Hid (cmpT r r' = 1) := Lib.hid (by rw [HX.out]; unfold or3; rw [show cmpI r.root r'.root = 1 by unfold cmpI; rw [if_neg (by omega), if_pos hr]]; rfl)
        have hn3 : ¬ r.root < r'.root := by omega
        go_wp2
        go_ret
        exact ⟨by rw [HY.out]; rfl, HM1.out⟩
    · have HY : Hid (cmpT r r' = c) := Lib.hid (by rw [HX.out]; unfold or3; rw [if_neg (by simp), if_pos h0])
      have hd0 : (c != 0) = true := by simp [h0]
      go_wp2
      go_ret
      exact ⟨by rw [HY.out]; rfl, HM1.out⟩
  · have HX : Hid (cmpT r r' = 1) := Lib.hid (by unfold cmpT or3; rw [show cmpI r.vlan r'.vlan = 1 by unfold cmpI; rw [if_neg (by omega), if_pos hv]]; rfl)
    have hne : ¬ r.vlan = r'.vlan := by omega
    have hd : (r.vlan != r'.vlan) = true := by simp [hne]
    have hnl : ¬ r.vlan < r'.vlan := by omega
    go_enter Try.func17, Try.ntmps17
    go_wp2
    go_ret
    exact ⟨by rw [HX.out]; rfl, HM.out⟩
end Go.Proofs.Ytegjamjognpdkaa
