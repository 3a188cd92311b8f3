/- TableReads: the walk. -/
import Derived.Test.YtegjamjognpdkaaRefJ
import Derived.Test.YtegjamjognpdkaaRefL
import Derived.Test.YtegjamjognpdkaaLives35
import Derived.Lib.Hide
import Derived.Handy
namespace Go.Proofs.Ytegjamjognpdkaa
open Go.RowKit
set_option linter.unusedVariables false
set_option linter.unusedSimpArgs false
/-- a text's first bytes -/
def cutB (s : ByteArray) (n : Int) : ByteArray := if (s.size : Int) > n then s.extract 0 n.toNat else s
theorem Cut_any (s : ByteArray) (n : Int) (h0 : 0 ≤ n) (h1 : n < 9223372036854775808) (w : World) : Calls Try.prog 13 #[.string s, .int .i64 n] w fun e w' => e = .returned (.string (cutB s n)) ∧ w = w' := by
  go_enter Try.func13, Try.ntmps13
  by_cases h : (s.size : Int) > n
  · have EA : Hid (cutB s n = s.extract 0 n.toNat) := Lib.hid (if_pos h)
    have h' : n < (s.size : Int) := h
    go_wp2
    go_ret
    exact ⟨by rw [EA.out]; rfl, rfl⟩
  · have EA : Hid (cutB s n = s) := Lib.hid (if_neg h)
    have h' : ¬ n < (s.size : Int) := h
    go_wp2
    go_ret
    exact ⟨by rw [EA.out]; rfl, rfl⟩
theorem cutB_size (s : ByteArray) : (cutB s 120).size ≤ 120 := by
  unfold cutB
  split
  · rw [ByteArray.size_extract]
    have : (120 : Int).toNat = 120 := rfl
    omega
  · omega
def outC (s : ByteArray) (x : PS) : Int := if x.p < s.size then 3 else if (x.ok && goodT x.rs) = true then 0 else 2
def outR (s : ByteArray) (x : PS) : List TRow := if x.p < s.size then [] else if (x.ok && goodT x.rs) = true then x.rs else []
theorem ReadR.at {s : ByteArray} {x : PS} {w : World} {v : Value} {c : Int} (h : ReadR s x w v c) : c = outC s x ∧ ∃ sv, RowsAt w v (outR s x) sv := by
  have nil : RowsAt w (.slice none 0 0) [] (fun _ => .slice none 0 0) := (RowsOwn.nil w (fun _ => True) _).at
  cases h with
  | short hp => exact ⟨(if_pos hp).symm, _, by rw [show outR s x = [] from if_pos hp]; exact nil⟩
  | bad hp hb =>
    have hb' : ¬ (x.ok && goodT x.rs) = true := by rw [hb]; decide
    exact ⟨by unfold outC; rw [if_neg hp, if_neg hb'], _, by unfold outR; rw [if_neg hp, if_neg hb']; exact nil⟩
  | good _ sv hp hb hr => exact ⟨by unfold outC; rw [if_neg hp, if_pos hb], sv, by unfold outR; rw [if_neg hp, if_pos hb]; exact hr⟩
theorem out_good {s : ByteArray} {x : PS} (h : outC s x = 0) : goodT (outR s x) = true := by
  unfold outC at h
  unfold outR
  split at h
  · cases h
  · rename_i hp
    split at h
    · rename_i hb
      rw [if_neg hp, if_pos hb]
      rw [Bool.and_eq_true] at hb
      exact hb.2
    · cases h
theorem reads_walk (s : ByteArray) (w : World) : Calls Try.prog 4 #[.string s] w fun e w' => e = .returned (.bool true) ∧ Mod (fun _ => False) w w' := by
  have hs := cutB_size s
  go_enter Try.func4, Try.ntmps4
  go_wp2_with fail
  refine (Cut_any s 120 (by omega) (by omega) _).mono ?_; rintro e w0 ⟨rfl, rfl⟩
  obtain ⟨u, hu⟩ : ∃ u, u = cutB s 120 := ⟨_, rfl⟩
  rw [← hu] at hs ⊢
  clear hu
  go_wp2_with fail
  refine (Read_any u (by omega) _).mono ?_; rintro e w1 ⟨j, v, c, rfl, hj, hr, hm⟩
  have HM1 := Lib.hid hm
  have HR1 := Lib.hid hr
  have HJ1 := Lib.hid hj
  clear hm hr hj
  go_wp2_with fail
  refine (refRead_any u (by omega) _).mono ?_; rintro e w2 ⟨j', v', c', rfl, hj, hr, hm⟩
  rw [← st_one HJ1.out hj] at hr
  obtain ⟨e1, sv, h1⟩ := HR1.out.at
  obtain ⟨e2, sv', h2⟩ := hr.at
  have HM2 := Lib.hid (HM1.out.trans hm fun _ f => f.elim)
  have HA := Lib.hid (h1.keep hm)
  have HA' := Lib.hid h2
  have hcc : c' = c := by rw [e1, e2]
  subst hcc
  have HC := Lib.hid e1
  clear hm hr hj h1 h2 e1 e2 HM1 HR1 HJ1
  go_wp2_with fail
  refine (refSame_true _ _ _ sv sv' _ HA.out HA'.out).mono ?_; rintro e w3 ⟨rfl, hm⟩
  have HM3 := Lib.hid (HM2.out.trans hm fun _ f => f.elim)
  have HA3 := Lib.hid (HA.out.keep hm)
  clear hm HM2 HA HA'
  by_cases h0 : c' = 0
  · have HG : Hid (goodT (outR u (st u j)) = true) := Lib.hid (out_good (HC.out.symm.trans h0))
    subst h0
    go_wp2_with fail
    refine (Good_rows _ _ sv _ HA3.out).mono ?_; rintro e w4 ⟨rfl, hm⟩
    rw [HG.out]
    have HM4 := Lib.hid (HM3.out.trans hm fun _ f => f.elim)
    clear hm HA3
    go_wp2_with fail
    refine (lives35_any _).mono ?_; rintro e w5 ⟨rfl, hm⟩
    have HM5 := Lib.hid (HM4.out.trans hm fun _ f => f.elim)
    clear hm
    go_wp2
    go_ret
    exact ⟨rfl, HM5.out⟩
  · have h0b : (c' == 0) = false := by simp [h0]
    have h0n : (c' != 0) = true := by simp [h0]
    go_wp2_with fail
    refine (lives35_any _).mono ?_; rintro e w5 ⟨rfl, hm⟩
    have HM5 := Lib.hid (HM3.out.trans hm fun _ f => f.elim)
    clear hm
    go_wp2
    go_ret
    exact ⟨rfl, HM5.out⟩
end Go.Proofs.Ytegjamjognpdkaa
