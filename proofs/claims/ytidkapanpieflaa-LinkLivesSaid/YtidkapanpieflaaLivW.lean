/- LinkLives: the walk. (Printed by gen_lives.py.) -/
import Derived.Test.YtidkapanpieflaaLivS
import Derived.Deep.CutBlock
import Derived.Test.YtidkapanpieflaaRunA
import Derived.ProofKit
import Derived.Test.YtidkapanpieflaaRows
import Derived.KernelRfl
import Derived.Test.YtidkapanpieflaaLivK4
import Derived.Test.YtidkapanpieflaaLivK5
namespace Go.Proofs.Ytidkapanpieflaa
open Go.RowKit
set_option linter.unusedVariables false
set_option linter.unusedSimpArgs false
set_option maxHeartbeats 8000000 in
set_option maxRecDepth 100000 in
theorem liv_tail {e0 was : Int} {ad : Option Addr} {n cap p q pa x1 i j : Nat} {an1 au1 ar1 ad1 at1 : Option Addr} {cn1 cu1 cr1 cd1 ct1 : Nat} {S1 : LS} {w wD : World} {c6 : Nat → Nat} {u4 u17 u18 u19 u20 u21 u22 u23 u24 u25 u26 u27 u28 u29 u30 u31 u32 u33 u34 u35 u36 u37 u38 u39 u40 u41 u42 u43 u44 u45 u46 u47 u48 u49 u50 u51 u52 u53 u54 u55 u56 u57 u58 u59 u60 u61 u62 u63 u64 u65 u66 u67 u68 u69 u70 u71 u72 u73 u74 u75 u76 u77 u78 u79 u80 u81 u82 u83 u84 u85 u86 u87 u88 u89 u90 u91 u92 u93 u94 u95 u96 u97 u98 u99 u100 u101 u102 u103 u104 u105 u106 u107 u108 u109 u110 u111 u112 u113 u114 u115 u116 u117 u118 u119 u120 u121 u122 u123 u124 u125 u126 u127 u128 u129 u130 u131 u132 u133 u134 u135 u136 u137 u138 u139 u140 u141 u142 u143 u144 u145 u146 u147 u148 u149 u150 u151 u152 u153 u154 u155 u156 u157 u158 u159 u160 u161 u162 u163 u164 u165 u166 u167 u168 u169 u170 u171 u172 u173 u174 u175 u176 u177 u178 u179 u180 u181 u182 u183 u184 u185 u186 u187 u188 u189 u190 u191 u192 u193 u194 u195 u196 u197 u198 u199 u200 u201 u202 u203 u204 u205 u206 u207 u208 u209 u210 u211 u212 u213 u214 u215 u216 u217 u218 u219 u220 u221 u222 u223 u224 u225 u226 u227 u228 u229 u230 u231 u232 u233 u234 u235 u236 u237 : Value}
    (HM1 : Hid (LivM w wD p q (.slice an1 S1.net.length cn1) (.slice au1 S1.up.length cu1) (.slice ar1 S1.heard.length cr1) (.slice ad1 S1.down.length cd1) (.slice at1 S1.told.length ct1) c6 S1)) (HMID : Hid (MidR e0 was S1 i)) (hi : i ≤ 120)
    {Q : Exit → Act → World → Prop}
    (HQ : Hid (∀ nv uv hv dv tv wx c8 c9, LivM w wx p q nv uv hv dv tv c8 { S1.settle was with net := (S1.settle was).net.take 40 } → InvL e0 { S1.settle was with net := (S1.settle was).net.take 40 } c9 (i + 1) → ∀ u25 u26 u35 u36 u37 u38 u39 u40 u41 u42 u43 u44 u45 u46 u47 u48 u49 u50 u51 u52 u53 u54 u55 u56 u57 u58 u59 u60 u61 u62 u63 u64 u65 u66 u67 u68 u69 u70 u71 u72 u73 u74 u75 u76 u77 u78 u79 u80 u81 u82 u83 u84 u85 u86 u87 u88 u89 u90 u91 u92 u93 u94 u95 u96 u97 u98 u99 u100 u101 u102 u103 u104 u105 u106 u107 u108 u109 u110 u111 u112 u113 u114 u115 u116 u117 u118 u119 u120 u121 u122 u123 u124 u125 u126 u127 u128 u129 u130 u131 u132 u133 u134 u135 u136 u137 u138 u139 u140 u141 u142 u143 u144 u145 u146 u147 u148 u149 u150 u151 u152 u153 u154 u155 u156 u157 u158 u159 u160 u161 u162 u163 u164 u165 u166 u167 u168 u169 u170 u171 u172 u173 u174 u175 u176 u177 u178 u179 u180 u181 u182 u183 u184 u185 u186 u187 u188 u189 u190 u191 u192 u193 u194 u195 u196 u197 u198 u199 u200 u201 u202 u203 u204 u205 u206 u207 u208 u209 u210 u211 u212 u213 u214 u215 u216 u217 u218 u219 u220 u221 u222 u223 u224 u225 u226 u227 u228 u229 u230 u231 u232 u233 u234 u235 u236, Q .normal ⟨List.toArray ((.int .u32 e0) :: (.slice ad n cap) :: (undef) :: (undef) :: (u4) :: (.pointer (some ⟨p, 0, none⟩)) :: (.pointer (some ⟨q, 0, none⟩)) :: (nv) :: (uv) :: (hv) :: (dv) :: (tv) :: (.int .i64 (x1 : Int)) :: (.int .i64 (i : Int)) :: (.pointer (some ⟨pa, 0, none⟩)) :: (.int .i64 (j : Int)) :: (.int .u32 was) :: (u17) :: (u18) :: (u19) :: (u20) :: (u21) :: (u22) :: (u23) :: (u24) :: u25 :: u26 :: (u27) :: (u28) :: (u29) :: (u30) :: (u31) :: (u32) :: (u33) :: (u34) :: u35 :: u36 :: u37 :: u38 :: u39 :: u40 :: u41 :: u42 :: u43 :: u44 :: u45 :: u46 :: u47 :: u48 :: u49 :: u50 :: u51 :: u52 :: u53 :: u54 :: u55 :: u56 :: u57 :: u58 :: u59 :: u60 :: u61 :: u62 :: u63 :: u64 :: u65 :: u66 :: u67 :: u68 :: u69 :: u70 :: u71 :: u72 :: u73 :: u74 :: u75 :: u76 :: u77 :: u78 :: u79 :: u80 :: u81 :: u82 :: u83 :: u84 :: u85 :: u86 :: u87 :: u88 :: u89 :: u90 :: u91 :: u92 :: u93 :: u94 :: u95 :: u96 :: u97 :: u98 :: u99 :: u100 :: u101 :: u102 :: u103 :: u104 :: u105 :: u106 :: u107 :: u108 :: u109 :: u110 :: u111 :: u112 :: u113 :: u114 :: u115 :: u116 :: u117 :: u118 :: u119 :: u120 :: u121 :: u122 :: u123 :: u124 :: u125 :: u126 :: u127 :: u128 :: u129 :: u130 :: u131 :: u132 :: u133 :: u134 :: u135 :: u136 :: u137 :: u138 :: u139 :: u140 :: u141 :: u142 :: u143 :: u144 :: u145 :: u146 :: u147 :: u148 :: u149 :: u150 :: u151 :: u152 :: u153 :: u154 :: u155 :: u156 :: u157 :: u158 :: u159 :: u160 :: u161 :: u162 :: u163 :: u164 :: u165 :: u166 :: u167 :: u168 :: u169 :: u170 :: u171 :: u172 :: u173 :: u174 :: u175 :: u176 :: u177 :: u178 :: u179 :: u180 :: u181 :: u182 :: u183 :: u184 :: u185 :: u186 :: u187 :: u188 :: u189 :: u190 :: u191 :: u192 :: u193 :: u194 :: u195 :: u196 :: u197 :: u198 :: u199 :: u200 :: u201 :: u202 :: u203 :: u204 :: u205 :: u206 :: u207 :: u208 :: u209 :: u210 :: u211 :: u212 :: u213 :: u214 :: u215 :: u216 :: u217 :: u218 :: u219 :: u220 :: u221 :: u222 :: u223 :: u224 :: u225 :: u226 :: u227 :: u228 :: u229 :: u230 :: u231 :: u232 :: u233 :: u234 :: u235 :: u236 :: (u237) :: []), []⟩ wx)) :
    Code.wp Try.prog (pickC [1, 1, 1, 0, 1, 0, 0, 1, 0, 0, 1, 1, 1, 1, 1] (Try.f10.body.getD .skip)) Q ⟨List.toArray ((.int .u32 e0) :: (.slice ad n cap) :: (undef) :: (undef) :: u4 :: (.pointer (some ⟨p, 0, none⟩)) :: (.pointer (some ⟨q, 0, none⟩)) :: (.slice an1 S1.net.length cn1) :: (.slice au1 S1.up.length cu1) :: (.slice ar1 S1.heard.length cr1) :: (.slice ad1 S1.down.length cd1) :: (.slice at1 S1.told.length ct1) :: (.int .i64 (x1 : Int)) :: (.int .i64 (i : Int)) :: (.pointer (some ⟨pa, 0, none⟩)) :: (.int .i64 (j : Int)) :: (.int .u32 was) :: u17 :: u18 :: u19 :: u20 :: u21 :: u22 :: u23 :: u24 :: u25 :: u26 :: u27 :: u28 :: u29 :: u30 :: u31 :: u32 :: u33 :: u34 :: u35 :: u36 :: u37 :: u38 :: u39 :: u40 :: u41 :: u42 :: u43 :: u44 :: u45 :: u46 :: u47 :: u48 :: u49 :: u50 :: u51 :: u52 :: u53 :: u54 :: u55 :: u56 :: u57 :: u58 :: u59 :: u60 :: u61 :: u62 :: u63 :: u64 :: u65 :: u66 :: u67 :: u68 :: u69 :: u70 :: u71 :: u72 :: u73 :: u74 :: u75 :: u76 :: u77 :: u78 :: u79 :: u80 :: u81 :: u82 :: u83 :: u84 :: u85 :: u86 :: u87 :: u88 :: u89 :: u90 :: u91 :: u92 :: u93 :: u94 :: u95 :: u96 :: u97 :: u98 :: u99 :: u100 :: u101 :: u102 :: u103 :: u104 :: u105 :: u106 :: u107 :: u108 :: u109 :: u110 :: u111 :: u112 :: u113 :: u114 :: u115 :: u116 :: u117 :: u118 :: u119 :: u120 :: u121 :: u122 :: u123 :: u124 :: u125 :: u126 :: u127 :: u128 :: u129 :: u130 :: u131 :: u132 :: u133 :: u134 :: u135 :: u136 :: u137 :: u138 :: u139 :: u140 :: u141 :: u142 :: u143 :: u144 :: u145 :: u146 :: u147 :: u148 :: u149 :: u150 :: u151 :: u152 :: u153 :: u154 :: u155 :: u156 :: u157 :: u158 :: u159 :: u160 :: u161 :: u162 :: u163 :: u164 :: u165 :: u166 :: u167 :: u168 :: u169 :: u170 :: u171 :: u172 :: u173 :: u174 :: u175 :: u176 :: u177 :: u178 :: u179 :: u180 :: u181 :: u182 :: u183 :: u184 :: u185 :: u186 :: u187 :: u188 :: u189 :: u190 :: u191 :: u192 :: u193 :: u194 :: u195 :: u196 :: u197 :: u198 :: u199 :: u200 :: u201 :: u202 :: u203 :: u204 :: u205 :: u206 :: u207 :: u208 :: u209 :: u210 :: u211 :: u212 :: u213 :: u214 :: u215 :: u216 :: u217 :: u218 :: u219 :: u220 :: u221 :: u222 :: u223 :: u224 :: u225 :: u226 :: u227 :: u228 :: u229 :: u230 :: u231 :: u232 :: u233 :: u234 :: u235 :: u236 :: u237 :: []), []⟩ wD := by
  obtain ⟨_, _, e1, hnn1, hcn1, _⟩ := HM1.out.n.form
  obtain ⟨_, _, e2, hnu1, hcu1, _⟩ := HM1.out.u.form
  obtain ⟨_, _, e3, hnr1, hcr1, _⟩ := HM1.out.r.form
  obtain ⟨_, _, e4, hnd1, hcd1, _⟩ := HM1.out.d.form
  obtain ⟨_, _, e5, hnt1, hct1, _⟩ := HM1.out.t.form
  cases e1; cases e2; cases e3; cases e4; cases e5
  unfold maxLen at hcn1 hcu1 hcr1 hcd1 hct1
  conv => arg 2; whnf
  go_upto_region 49 with fail
  go_cut [205] from 35 to 236 (fun b wx => b = .bool (decide (S1.E.epoch ≠ was)) ∧ wx = wD)
  case first =>
    by_cases hep : S1.E.epoch = was
    · have HD : Hid (decide (S1.E.epoch ≠ was) = false) := Lib.hid (decide_eq_false fun h => h hep)
      have HEP := Lib.hid hep
      clear hep
      go_wp2_with fail
      refine (EEpoch_any p _ S1.E _ HM1.out.e).mono ?_; rintro e w' ⟨rfl, rfl⟩
      rw [HEP.out]
      go_wp2_with fail
      go_meet
      exact ⟨by rw [HD.out], rfl⟩
    · have HD : Hid (decide (S1.E.epoch ≠ was) = true) := Lib.hid (decide_eq_true hep)
      have hne : (S1.E.epoch == was) = false := by simpa using hep
      clear hep
      go_wp2_with fail
      refine (EEpoch_any p _ S1.E _ HM1.out.e).mono ?_; rintro e w' ⟨rfl, rfl⟩
      go_wp2_with fail
      go_meet
      exact ⟨by rw [HD.out, bne, hne]; rfl, rfl⟩
  case rest =>
  obtain ⟨rfl, hwc⟩ := hcut
  rw [hwc]
  clear hwc
  go_upto_if 205 with fail
  go_cut [8, 11] from 35 to 236 (fun uv tv wx => ∃ c7, LivM w wx p q (.slice an1 S1.net.length cn1) uv (.slice ar1 S1.heard.length cr1) (.slice ad1 S1.down.length cd1) tv c7 (S1.settle was))
  case first =>
    by_cases hep : S1.E.epoch = was
    · rw [decide_eq_false fun h => h hep]
      have HS : Hid (S1 = S1.settle was) := Lib.hid (LS.settle_same hep).symm
      clear hep
      go_wp2_with fail
      go_meet
      exact ⟨c6, HM1.out.to HS.out⟩
    · rw [decide_eq_true (p := S1.E.epoch ≠ was) hep]
      have HS : Hid ({ S1 with up := [], told := [] } = S1.settle was) := Lib.hid (by unfold LS.settle; rw [if_neg hep])
      obtain ⟨c7, h7⟩ := HM1.out.two
      have HX := Lib.hid h7
      clear h7 hep
      go_wp2_with fail
      go_meet
      exact ⟨c7, HX.out.to HS.out⟩
  case rest =>
    obtain ⟨c7, hM2⟩ := hcut
    obtain ⟨w2', hw2⟩ : ∃ z, z = wc := ⟨_, rfl⟩
    rw [← hw2] at hM2 ⊢
    obtain ⟨c9, hc9, hP9, hI9⟩ := HMID.out.next
    obtain ⟨S2, hS2⟩ : ∃ z, z = S1.settle was := ⟨_, rfl⟩
    rw [← hS2] at hM2 hP9 hI9
    obtain ⟨au2, cu2, rfl, _, _, _⟩ := hM2.u.form
    obtain ⟨at2, ct2, rfl, _, _, _⟩ := hM2.t.form
    obtain ⟨en, er, ed⟩ : S1.net = S2.net ∧ S1.heard = S2.heard ∧ S1.down = S2.down := hS2 ▸ settle_same3 _ _
    rw [en, er, ed] at hM2
    rw [en] at hnn1
    rw [en, er, ed]
    have hnn2 : S2.net.length ≤ cn1 := by omega
    have hchk := hP9.check (by omega)
    have HM2 := Lib.hid hM2
    have HI9 := Lib.hid hI9
    have HS2 := Lib.hid hS2
    clear hw2 hM2 hI9 hP9 hS2 en er ed HM1 HMID hnn1 hnu1 hnr1 hnd1 hnt1
    go_wp2_with fail
    refine (HEpoch_any HM2.out.h 1).mono ?_; rintro e w' ⟨rfl, rfl⟩
    go_upto_region 52 with fail
    go_cut [25, 26, 231] from 35 to 236 (fun _ _ b wx => ∃ c8, b = .bool false ∧ LivM w wx p q (.slice an1 S2.net.length cn1) (.slice au2 S2.up.length cu2) (.slice ar1 S2.heard.length cr1) (.slice ad1 S2.down.length cd1) (.slice at2 S2.told.length ct2) c8 S2)
    case first =>
      rcases hchk with h1 | ⟨H, h1, h2⟩ | ⟨H, h1, h2, ⟨h3, h4⟩, h5, h6⟩
      · as_aux_lemma =>
        rw [h1]
        try simp only [Option.elim_none, Option.isSome_none]
        clear h1
        go_wp2_with fail
        go_meet
        exact ⟨c7, rfl, HM2.out⟩
      · as_aux_lemma =>
        rw [h1]
        try simp only [Option.elim_some, Option.isSome_some]
        have hne : (H.epoch == S2.E.epoch) = false := by simpa using h2
        clear h1 h2
        go_wp2_with fail
        refine (EEpoch_any p _ S2.E _ HM2.out.e).mono ?_; rintro e w' ⟨rfl, rfl⟩
        dsimp only
        go_wp2_with fail
        go_meet
        exact ⟨c7, rfl, HM2.out⟩
      · as_aux_lemma =>
        rw [h1]
        try simp only [Option.elim_some, Option.isSome_some]
        rw [h2]
        have H4 := Lib.hid h4
        have H6 := Lib.hid h6
        clear h1 h2 h4 h6
        go_wp2_with fail
        refine (EEpoch_any p _ S2.E _ HM2.out.e).mono ?_; rintro e w' ⟨rfl, rfl⟩
        dsimp only
        go_wp2_with fail
        refine (begin_any _ _ S2.heard S2.up _ HM2.out.r.reads HM2.out.u.reads h3 H4.out).mono ?_; rintro e w3 ⟨rfl, hm⟩
        have HM3 := Lib.hid (HM2.out.still hm 9)
        clear hm
        dsimp only
        go_wp2_with fail
        refine (begin_any _ _ S2.told S2.down _ HM3.out.t.reads HM3.out.d.reads h5 H6.out).mono ?_; rintro e w4 ⟨rfl, hm⟩
        have HM4 := Lib.hid (HM3.out.still hm 9)
        clear hm
        dsimp only
        go_wp2_with fail
        go_meet
        exact ⟨_, rfl, HM4.out⟩
    case rest =>
      obtain ⟨c8, rfl, hM8⟩ := hcut
      obtain ⟨w3', hw3⟩ : ∃ z, z = wc := ⟨_, rfl⟩
      rw [← hw3] at hM8 ⊢
      have HM8 := Lib.hid hM8
      clear hM8 hw3 HM2 hchk
      go_upto_region 54 with fail
      go_cut [234] from 35 to 236 (fun b wx => b = .bool (decide (40 < S2.net.length)) ∧ wx = w3')
      case first =>
        by_cases h40 : 40 < S2.net.length
        · have h41 : (40 : Int) < (S2.net.length : Int) := by omega
          have HD : Hid (decide (40 < S2.net.length) = true) := Lib.hid (decide_eq_true h40)
          go_wp2_with fail
          go_meet
          exact ⟨by rw [HD.out], rfl⟩
        · have h41 : ¬ (40 : Int) < (S2.net.length : Int) := by omega
          have HD : Hid (decide (40 < S2.net.length) = false) := Lib.hid (decide_eq_false h40)
          go_wp2_with fail
          go_meet
          exact ⟨by rw [HD.out], rfl⟩
      case rest =>
      obtain ⟨rfl, hwc⟩ := hcut
      rw [hwc]
      clear hwc
      by_cases h40 : 40 < S2.net.length
      · rw [decide_eq_true h40]
        have h42 : (40 : Int) ≤ (cn1 : Int) := by omega
        have hR := HM8.out.n.cut (m := 40) (by omega)
        have e : (S2.net.take 40).length = 40 := by rw [List.length_take]; omega
        have HM10 : Hid (LivM w w3' p q (.slice an1 40 cn1) (.slice au2 S2.up.length cu2) (.slice ar1 S2.heard.length cr1) (.slice ad1 S2.down.length cd1) (.slice at2 S2.told.length ct2) c8 { S2 with net := S2.net.take 40 }) := Lib.hid ⟨HM8.out.col, HM8.out.e, HM8.out.h, by
          show Row _ _ _ _ _ (S2.net.take 40).length (MsgV.vals (S2.net.take 40))
          rw [e, ← MsgV.vals_take]
          exact hR, HM8.out.u, HM8.out.r, HM8.out.d, HM8.out.t⟩
        clear hR e HM8
        go_wp2_with fail
        refine HQ.out _ _ _ _ _ _ _ _ (HM10.out.to (by rw [HS2.out])) (HS2.out ▸ HI9.out) _ _ _ _ _ _ _ _ _ _ _ _ _ _ _ _ _ _ _ _ _ _ _ _ _ _ _ _ _ _ _ _ _ _ _ _ _ _ _ _ _ _ _ _ _ _ _ _ _ _ _ _ _ _ _ _ _ _ _ _ _ _ _ _ _ _ _ _ _ _ _ _ _ _ _ _ _ _ _ _ _ _ _ _ _ _ _ _ _ _ _ _ _ _ _ _ _ _ _ _ _ _ _ _ _ _ _ _ _ _ _ _ _ _ _ _ _ _ _ _ _ _ _ _ _ _ _ _ _ _ _ _ _ _ _ _ _ _ _ _ _ _ _ _ _ _ _ _ _ _ _ _ _ _ _ _ _ _ _ _ _ _ _ _ _ _ _ _ _ _ _ _ _ _ _ _ _ _ _ _ _ _ _ _ _ _ _ _ _ _ _ _ _ _ _ _ _ _ _ _ _ _ _ _
      · rw [decide_eq_false h40]
        have HM10 := Lib.hid (HM8.out.to (S' := { S2 with net := S2.net.take 40 }) (by rw [List.take_of_length_le (by omega)]))
        clear HM8
        go_wp2_with fail
        refine HQ.out _ _ _ _ _ _ _ _ (HM10.out.to (by rw [HS2.out])) (HS2.out ▸ HI9.out) _ _ _ _ _ _ _ _ _ _ _ _ _ _ _ _ _ _ _ _ _ _ _ _ _ _ _ _ _ _ _ _ _ _ _ _ _ _ _ _ _ _ _ _ _ _ _ _ _ _ _ _ _ _ _ _ _ _ _ _ _ _ _ _ _ _ _ _ _ _ _ _ _ _ _ _ _ _ _ _ _ _ _ _ _ _ _ _ _ _ _ _ _ _ _ _ _ _ _ _ _ _ _ _ _ _ _ _ _ _ _ _ _ _ _ _ _ _ _ _ _ _ _ _ _ _ _ _ _ _ _ _ _ _ _ _ _ _ _ _ _ _ _ _ _ _ _ _ _ _ _ _ _ _ _ _ _ _ _ _ _ _ _ _ _ _ _ _ _ _ _ _ _ _ _ _ _ _ _ _ _ _ _ _ _ _ _ _ _ _ _ _ _ _ _ _ _ _ _ _ _ _ _ _

end Go.Proofs.Ytidkapanpieflaa
namespace Go.Proofs.Ytidkapanpieflaa
open Go.RowKit
set_option linter.unusedVariables false
set_option linter.unusedSimpArgs false
set_option maxHeartbeats 8000000 in
set_option maxRecDepth 100000 in
theorem liv_k3 {e0 k at_ : Int} {ad : Option Addr} {n cap p q pa x i j cc : Nat} {an au ar ad6 at7 : Option Addr} {cn cu cr cd6 ct : Nat} {S : LS} {w wB : World} {c5 : Nat → Nat} {u4 u17 u18 u19 u20 u21 u22 u23 u24 u25 u26 u27 u28 u29 u30 u31 u32 u33 u34 u35 u36 u37 u38 u39 u40 u41 u42 u43 u44 u45 u46 u47 u48 u49 u50 u51 u52 u53 u54 u55 u56 u57 u58 u59 u60 u61 u62 u63 u64 u65 u66 u67 u68 u69 u70 u71 u72 u73 u74 u75 u76 u78 u79 u80 u81 u82 u83 u84 u85 u86 u87 u88 u89 u90 u91 u92 u93 u94 u95 u96 u97 u98 u99 u100 u101 u102 u103 u104 u105 u106 u107 u108 u109 u110 u111 u112 u113 u114 u115 u116 u117 u118 u119 u120 u121 u122 u123 u124 u125 u126 u127 u128 u129 u130 u131 u132 u133 u134 u135 u136 u137 u138 u139 u140 u141 u142 u143 u144 u145 u146 u147 u148 u149 u150 u151 u152 u153 u154 u155 u156 u157 u158 u159 u160 u161 u162 u163 u164 u165 u166 u167 u168 u169 u170 u171 u172 u173 u174 u175 u176 u177 u178 u179 u180 u181 u182 u183 u184 u185 u186 u187 u188 u189 u190 u191 u192 u193 u194 u195 u196 u197 u198 u199 u200 u201 u202 u203 u204 u205 u206 u207 u208 u209 u210 u211 u212 u213 u214 u215 u216 u217 u218 u219 u220 u221 u222 u223 u224 u225 u226 u227 u228 u229 u230 u231 u232 u233 u234 u235 u236 u237 : Value}
    (HA5 : Hid (LivA w wB p q pa (.slice an S.net.length cn) (.slice au S.up.length cu) (.slice ar S.heard.length cr) (.slice ad6 S.down.length cd6) (.slice at7 S.told.length ct) c5 S k at_)) (HI2 : Hid (InvL e0 S cc i)) (hlt2 : i < 120) (hx : x ≤ i) (hj : 0 < S.net.length → j < S.net.length) (hk3 : k = 3)
    {Q : Exit → Act → World → Prop} (HP : ∀ d v c a w, Q (.panic c) (Act.put a d v) w → Q (.panic c) a w)
    (HQ : Hid (∀ nv uv hv dv tv S1 c6 (x1 : Nat) wx, x1 ≤ i + 1 → LivM w wx p q nv uv hv dv tv c6 S1 → MidR e0 S.E.epoch S1 i → ∀ u17 u18 u19 u20 u21 u22 u23 u24 u35 u36 u37 u38 u39 u40 u41 u42 u43 u44 u45 u46 u47 u48 u49 u50 u51 u52 u53 u54 u55 u56 u57 u58 u59 u60 u61 u62 u63 u64 u65 u66 u67 u68 u69 u70 u71 u72 u73 u74 u75 u76 u77 u78 u79 u80 u81 u82 u83 u84 u85 u86 u87 u88 u89 u90 u91 u92 u93 u94 u95 u96 u97 u98 u99 u100 u101 u102 u103 u104 u105 u106 u107 u108 u109 u110 u111 u112 u113 u114 u115 u116 u117 u118 u119 u120 u121 u122 u123 u124 u125 u126 u127 u128 u129 u130 u131 u132 u133 u134 u135 u136 u137 u138 u139 u140 u141 u142 u143 u144 u145 u146 u147 u148 u149 u150 u151 u152 u153 u154 u155 u156 u157 u158 u159 u160 u161 u162 u163 u164 u165 u166 u167 u168 u169 u170 u171 u172 u173 u174 u175 u176 u177 u178 u179 u180 u181 u182 u183 u184 u185 u186 u187 u188 u189 u190 u191 u192 u193 u194 u195 u196 u197 u198 u199 u200 u201 u202 u203 u204 u205 u206 u207 u208 u209 u210 u211 u212 u213 u214 u215 u216 u217 u218 u219 u220 u221 u222 u223 u224 u225 u226 u227 u228 u229 u230 u231 u232 u233 u234 u235 u236, Q .normal ⟨List.toArray ((.int .u32 e0) :: (.slice ad n cap) :: (undef) :: (undef) :: (u4) :: (.pointer (some ⟨p, 0, none⟩)) :: (.pointer (some ⟨q, 0, none⟩)) :: (nv) :: (uv) :: (hv) :: (dv) :: (tv) :: (.int .i64 (x1 : Int)) :: (.int .i64 (i : Int)) :: (.pointer (some ⟨pa, 0, none⟩)) :: (.int .i64 (j : Int)) :: (.int .u32 S.E.epoch) :: u17 :: u18 :: u19 :: u20 :: u21 :: u22 :: u23 :: u24 :: (u25) :: (u26) :: (u27) :: (u28) :: (u29) :: (u30) :: (u31) :: (u32) :: (u33) :: (u34) :: u35 :: u36 :: u37 :: u38 :: u39 :: u40 :: u41 :: u42 :: u43 :: u44 :: u45 :: u46 :: u47 :: u48 :: u49 :: u50 :: u51 :: u52 :: u53 :: u54 :: u55 :: u56 :: u57 :: u58 :: u59 :: u60 :: u61 :: u62 :: u63 :: u64 :: u65 :: u66 :: u67 :: u68 :: u69 :: u70 :: u71 :: u72 :: u73 :: u74 :: u75 :: u76 :: u77 :: u78 :: u79 :: u80 :: u81 :: u82 :: u83 :: u84 :: u85 :: u86 :: u87 :: u88 :: u89 :: u90 :: u91 :: u92 :: u93 :: u94 :: u95 :: u96 :: u97 :: u98 :: u99 :: u100 :: u101 :: u102 :: u103 :: u104 :: u105 :: u106 :: u107 :: u108 :: u109 :: u110 :: u111 :: u112 :: u113 :: u114 :: u115 :: u116 :: u117 :: u118 :: u119 :: u120 :: u121 :: u122 :: u123 :: u124 :: u125 :: u126 :: u127 :: u128 :: u129 :: u130 :: u131 :: u132 :: u133 :: u134 :: u135 :: u136 :: u137 :: u138 :: u139 :: u140 :: u141 :: u142 :: u143 :: u144 :: u145 :: u146 :: u147 :: u148 :: u149 :: u150 :: u151 :: u152 :: u153 :: u154 :: u155 :: u156 :: u157 :: u158 :: u159 :: u160 :: u161 :: u162 :: u163 :: u164 :: u165 :: u166 :: u167 :: u168 :: u169 :: u170 :: u171 :: u172 :: u173 :: u174 :: u175 :: u176 :: u177 :: u178 :: u179 :: u180 :: u181 :: u182 :: u183 :: u184 :: u185 :: u186 :: u187 :: u188 :: u189 :: u190 :: u191 :: u192 :: u193 :: u194 :: u195 :: u196 :: u197 :: u198 :: u199 :: u200 :: u201 :: u202 :: u203 :: u204 :: u205 :: u206 :: u207 :: u208 :: u209 :: u210 :: u211 :: u212 :: u213 :: u214 :: u215 :: u216 :: u217 :: u218 :: u219 :: u220 :: u221 :: u222 :: u223 :: u224 :: u225 :: u226 :: u227 :: u228 :: u229 :: u230 :: u231 :: u232 :: u233 :: u234 :: u235 :: u236 :: (u237) :: []), []⟩ wx)) :
    Code.wp Try.prog (pickC [1, 1, 1, 0, 1, 0, 0, 1, 0, 0, 1, 1, 1, 1, 0, 1] (Try.f10.body.getD .skip)) Q ⟨List.toArray ((.int .u32 e0) :: (.slice ad n cap) :: (undef) :: (undef) :: u4 :: (.pointer (some ⟨p, 0, none⟩)) :: (.pointer (some ⟨q, 0, none⟩)) :: (.slice an S.net.length cn) :: (.slice au S.up.length cu) :: (.slice ar S.heard.length cr) :: (.slice ad6 S.down.length cd6) :: (.slice at7 S.told.length ct) :: (.int .i64 (x : Int)) :: (.int .i64 (i : Int)) :: (.pointer (some ⟨pa, 0, none⟩)) :: (.int .i64 (j : Int)) :: (.int .u32 S.E.epoch) :: u17 :: u18 :: u19 :: u20 :: u21 :: u22 :: u23 :: u24 :: u25 :: u26 :: u27 :: u28 :: u29 :: u30 :: u31 :: u32 :: u33 :: u34 :: u35 :: u36 :: u37 :: u38 :: u39 :: u40 :: u41 :: u42 :: u43 :: u44 :: u45 :: u46 :: u47 :: u48 :: u49 :: u50 :: u51 :: u52 :: u53 :: u54 :: u55 :: u56 :: u57 :: u58 :: u59 :: u60 :: u61 :: u62 :: u63 :: u64 :: u65 :: u66 :: u67 :: u68 :: u69 :: u70 :: u71 :: u72 :: u73 :: u74 :: u75 :: u76 :: (.int .i64 k) :: u78 :: u79 :: u80 :: u81 :: u82 :: u83 :: u84 :: u85 :: u86 :: u87 :: u88 :: u89 :: u90 :: u91 :: u92 :: u93 :: u94 :: u95 :: u96 :: u97 :: u98 :: u99 :: u100 :: u101 :: u102 :: u103 :: u104 :: u105 :: u106 :: u107 :: u108 :: u109 :: u110 :: u111 :: u112 :: u113 :: u114 :: u115 :: u116 :: u117 :: u118 :: u119 :: u120 :: u121 :: u122 :: u123 :: u124 :: u125 :: u126 :: u127 :: u128 :: u129 :: u130 :: u131 :: u132 :: u133 :: u134 :: u135 :: u136 :: u137 :: u138 :: u139 :: u140 :: u141 :: u142 :: u143 :: u144 :: u145 :: u146 :: u147 :: u148 :: u149 :: u150 :: u151 :: u152 :: u153 :: u154 :: u155 :: u156 :: u157 :: u158 :: u159 :: u160 :: u161 :: u162 :: u163 :: u164 :: u165 :: u166 :: u167 :: u168 :: u169 :: u170 :: u171 :: u172 :: u173 :: u174 :: u175 :: u176 :: u177 :: u178 :: u179 :: u180 :: u181 :: u182 :: u183 :: u184 :: u185 :: u186 :: u187 :: u188 :: u189 :: u190 :: u191 :: u192 :: u193 :: u194 :: u195 :: u196 :: u197 :: u198 :: u199 :: u200 :: u201 :: u202 :: u203 :: u204 :: u205 :: u206 :: u207 :: u208 :: u209 :: u210 :: u211 :: u212 :: u213 :: u214 :: u215 :: u216 :: u217 :: u218 :: u219 :: u220 :: u221 :: u222 :: u223 :: u224 :: u225 :: u226 :: u227 :: u228 :: u229 :: u230 :: u231 :: u232 :: u233 :: u234 :: u235 :: u236 :: u237 :: []), []⟩ wB := by
  obtain ⟨_, _, e1, hnn, hcn, _⟩ := HA5.out.m.n.form
  obtain ⟨_, _, e2, hnu, hcu, _⟩ := HA5.out.m.u.form
  obtain ⟨_, _, e3, hnr, hcr, _⟩ := HA5.out.m.r.form
  obtain ⟨_, _, e4, hnd, hcd, _⟩ := HA5.out.m.d.form
  obtain ⟨_, _, e5, hnt, hct, _⟩ := HA5.out.m.t.form
  cases e1; cases e2; cases e3; cases e4; cases e5
  unfold maxLen at hcn hcu hcr hcd hct
  have hl3 := HI2.out.nn
  have hl4 := HI2.out.nu
  have hl5 := HI2.out.nr
  have hl6 := HI2.out.nd
  have hl7 := HI2.out.nt
  conv => arg 2; whnf
  subst hk3
  obtain ⟨hoo, hio, heo⟩ := HA5.out.m.e.life
  have hub := HA5.out.m.h.ok
  have hl1 := HI2.out.l1
  have hid := HI2.out.ph.id.node
  have hrlen := round_len hoo
  obtain ⟨hln1, hln2⟩ := hubRound_len hl1 fun L hL => (hub L hL).1
  have HMD := Lib.hid (HI2.out.send3 (by omega) hio heo fun L hL => ⟨(hub L hL).2.1, (hub L hL).2.2.1⟩)
  unfold Life.round at hrlen
  rw [List.length_append] at hrlen
  obtain ⟨m1, hm1e⟩ : ∃ m, m = S.E.sends := ⟨_, rfl⟩
  obtain ⟨m2, hm2e⟩ : ∃ m, m = S.l.flatMap Life.sends := ⟨_, rfl⟩
  obtain ⟨m3, hm3e⟩ : ∃ m, m = S.E.sent.beat := ⟨_, rfl⟩
  obtain ⟨m4, hm4e⟩ : ∃ m, m = beats (S.l.map Life.sent) := ⟨_, rfl⟩
  rw [← hm1e, ← hm3e] at hrlen
  rw [← hm2e] at hln1
  rw [← hm4e] at hln2
  have hq1 : m1.length ≤ 200 := by omega
  have hq3 : m3.length ≤ 200 := by omega
  have HE1 := Lib.hid hm1e
  have HE2 := Lib.hid hm2e
  have HE3 := Lib.hid hm3e
  have HE4 := Lib.hid hm4e
  have HL1 := Lib.hid hl1
  clear hoo hio heo hub hl1 hid hrlen hm1e hm2e hm3e hm4e
  go_wp2_with fail
  refine (ESend_any p _ S.E _ HA5.out.m.e).mono ?_; rintro e w6 ⟨v6, rfl, hv6, he, hm⟩
  obtain ⟨c7, hM6, hV6⟩ : ∃ c7, LivM w w6 p q (.slice an S.net.length cn) (.slice au S.up.length cu) (.slice ar S.heard.length cr) (.slice ad6 S.down.length cd6) (.slice at7 S.told.length ct) c7 { S with E := S.E.sent } ∧ Row w6 (fun k => c7 k = 8) 65 7 v6 m1.length (MsgV.vals m1) := ⟨_, HA5.out.m.eS he hm 8, by rw [HE1.out]; unfold Life.sends; rw [List.length_map]; exact hv6.monoLt (paint_born c5 _ w6 8)⟩
  have HM6 := Lib.hid hM6
  have HV6 := Lib.hid hV6
  clear he hm hv6 hM6 hV6
  go_wp2_with (at_builtin; go_loud (refine wpList_append_reads Try.elMsg rfl (.tmp 126) (.tmp 128) rfl _ _ _ _ rfl HM6.out.n _ m1.length (MsgV.vals m1) rfl HV6.out.reads (by rw [MsgV.vals_len]) (MsgV.vals_all _) (by simp only [List.length_append]; omega) (by unfold maxLen; simp only [List.length_append]; omega) ?_); intro v7 w7 hR7 hm7; have HM7 := Lib.hid (HM6.out.nM (l' := S.net ++ m1) hR7 hm7 (by simp only [List.length_append]) (MsgV.vals_app _ _).symm); clear hR7 hm7)
  refine (HSend_own HM7.out.h (by have := HL1.out; show S.l.length ≤ 1000; omega)).mono ?_; rintro e w8 ⟨v8, rfl, hv8, hx, hm⟩
  obtain ⟨c8, hM8, hV8, _⟩ := HM7.out.hV hx hv8 hm
  rw [← HE2.out] at hV8
  have HM8 := Lib.hid hM8
  have HV8 := Lib.hid hV8
  clear hx hv8 hm hM8 hV8 HM6 HV6 HM7
  go_wp2_with (at_builtin; go_loud (refine wpList_append_reads Try.elMsg rfl (.tmp 129) (.tmp 131) rfl _ _ _ _ rfl HM8.out.n _ m2.length (MsgV.vals m2) rfl HV8.out.reads (by rw [MsgV.vals_len]) (MsgV.vals_all _) (by simp only [List.length_append]; omega) (by unfold maxLen; simp only [List.length_append]; omega) ?_); intro v9 w9 hR9 hm9; have HM9 := Lib.hid (HM8.out.nM (l' := (S.net ++ m1) ++ m2) hR9 hm9 (by simp only [List.length_append]) (MsgV.vals_app _ _).symm); clear hR9 hm9)
  refine (EBeat_any p _ S.E.sent _ HM9.out.e).mono ?_; rintro e w10 ⟨v10, rfl, hv10, hm⟩
  have HM10 := Lib.hid (HM9.out.still hm 8)
  have HV10 : Hid (Row w10 (fun k => w9.heap.size ≤ k) 65 7 v10 m3.length (MsgV.vals m3)) := Lib.hid (by rw [HE3.out]; exact hv10)
  clear hm hv10 HM8 HV8 HM9
  go_wp2_with (at_builtin; go_loud (refine wpList_append_reads Try.elMsg rfl (.tmp 132) (.tmp 134) rfl _ _ _ _ rfl HM10.out.n _ m3.length (MsgV.vals m3) rfl HV10.out.reads (by rw [MsgV.vals_len]) (MsgV.vals_all _) (by simp only [List.length_append]; omega) (by unfold maxLen; simp only [List.length_append]; omega) ?_); intro v11 w11 hR11 hm11; have HM11 := Lib.hid (HM10.out.nM (l' := (S.net ++ m1 ++ m2) ++ m3) hR11 hm11 (by simp only [List.length_append]) (MsgV.vals_app _ _).symm); clear hR11 hm11)
  refine (HBeat_any HM11.out.h (by have := HL1.out; show (S.l.map Life.sent).length ≤ 1000; simp; omega)).mono ?_; rintro e w12 ⟨v12, rfl, hv12, hm⟩
  have HM12 := Lib.hid (HM11.out.still hm 8)
  have HV12 : Hid (Row w12 (fun k => w11.heap.size ≤ k) 65 7 v12 m4.length (MsgV.vals m4)) := Lib.hid (by rw [HE4.out]; exact hv12)
  clear hm hv12 HM10 HV10 HM11
  go_wp2_with (at_builtin; go_loud (refine wpList_append_reads Try.elMsg rfl (.tmp 135) (.tmp 137) rfl _ _ _ _ rfl HM12.out.n _ m4.length (MsgV.vals m4) rfl HV12.out.reads (by rw [MsgV.vals_len]) (MsgV.vals_all _) (by simp only [List.length_append]; omega) (by unfold maxLen; simp only [List.length_append]; omega) ?_); intro v13 w13 hR13 hm13; have HM13 := Lib.hid (HM12.out.nM (l' := (S.net ++ m1 ++ m2 ++ m3) ++ m4) hR13 hm13 (by simp only [List.length_append]) (MsgV.vals_app _ _).symm); clear hR13 hm13)
  refine HQ.out _ _ _ _ _ (S.esend.hsend.ebeat.hbeat) _ (x) _ (by omega) (HM13.out.to (by rw [HE1.out, HE2.out, HE3.out, HE4.out]; rfl)) (HMD.out) _ _ _ _ _ _ _ _ _ _ _ _ _ _ _ _ _ _ _ _ _ _ _ _ _ _ _ _ _ _ _ _ _ _ _ _ _ _ _ _ _ _ _ _ _ _ _ _ _ _ _ _ _ _ _ _ _ _ _ _ _ _ _ _ _ _ _ _ _ _ _ _ _ _ _ _ _ _ _ _ _ _ _ _ _ _ _ _ _ _ _ _ _ _ _ _ _ _ _ _ _ _ _ _ _ _ _ _ _ _ _ _ _ _ _ _ _ _ _ _ _ _ _ _ _ _ _ _ _ _ _ _ _ _ _ _ _ _ _ _ _ _ _ _ _ _ _ _ _ _ _ _ _ _ _ _ _ _ _ _ _ _ _ _ _ _ _ _ _ _ _ _ _ _ _ _ _ _ _ _ _ _ _ _ _ _ _ _ _ _ _ _ _ _ _ _ _ _ _ _ _ _ _ _ _ _ _ _ _ _

end Go.Proofs.Ytidkapanpieflaa
namespace Go.Proofs.Ytidkapanpieflaa
open Go.RowKit
set_option linter.unusedVariables false
set_option linter.unusedSimpArgs false
set_option maxHeartbeats 8000000 in
set_option maxRecDepth 100000 in
theorem liv_k6 {e0 k at_ : Int} {ad : Option Addr} {n cap p q pa x i j cc : Nat} {an au ar ad6 at7 : Option Addr} {cn cu cr cd6 ct : Nat} {S : LS} {w wB : World} {c5 : Nat → Nat} {u4 u17 u18 u19 u20 u21 u22 u23 u24 u25 u26 u27 u28 u29 u30 u31 u32 u33 u34 u35 u36 u37 u38 u39 u40 u41 u42 u43 u44 u45 u46 u47 u48 u49 u50 u51 u52 u53 u54 u55 u56 u57 u58 u59 u60 u61 u62 u63 u64 u65 u66 u67 u68 u69 u70 u71 u72 u73 u74 u75 u76 u78 u79 u80 u81 u82 u83 u84 u85 u86 u87 u88 u89 u90 u91 u92 u93 u94 u95 u96 u97 u98 u99 u100 u101 u102 u103 u104 u105 u106 u107 u108 u109 u110 u111 u112 u113 u114 u115 u116 u117 u118 u119 u120 u121 u122 u123 u124 u125 u126 u127 u128 u129 u130 u131 u132 u133 u134 u135 u136 u137 u138 u139 u140 u141 u142 u143 u144 u145 u146 u147 u148 u149 u150 u151 u152 u153 u154 u155 u156 u157 u158 u159 u160 u161 u162 u163 u164 u165 u166 u167 u168 u169 u170 u171 u172 u173 u174 u175 u176 u177 u178 u179 u180 u181 u182 u183 u184 u185 u186 u187 u188 u189 u190 u191 u192 u193 u194 u195 u196 u197 u198 u199 u200 u201 u202 u203 u204 u205 u206 u207 u208 u209 u210 u211 u212 u213 u214 u215 u216 u217 u218 u219 u220 u221 u222 u223 u224 u225 u226 u227 u228 u229 u230 u231 u232 u233 u234 u235 u236 u237 : Value}
    (HA5 : Hid (LivA w wB p q pa (.slice an S.net.length cn) (.slice au S.up.length cu) (.slice ar S.heard.length cr) (.slice ad6 S.down.length cd6) (.slice at7 S.told.length ct) c5 S k at_)) (HI2 : Hid (InvL e0 S cc i)) (hlt2 : i < 120) (hx : x ≤ i) (hj : 0 < S.net.length → j < S.net.length) (hk6 : k = 6)
    {Q : Exit → Act → World → Prop} (HP : ∀ d v c a w, Q (.panic c) (Act.put a d v) w → Q (.panic c) a w)
    (HQ : Hid (∀ nv uv hv dv tv S1 c6 (x1 : Nat) wx, x1 ≤ i + 1 → LivM w wx p q nv uv hv dv tv c6 S1 → MidR e0 S.E.epoch S1 i → ∀ u17 u18 u19 u20 u21 u22 u23 u24 u35 u36 u37 u38 u39 u40 u41 u42 u43 u44 u45 u46 u47 u48 u49 u50 u51 u52 u53 u54 u55 u56 u57 u58 u59 u60 u61 u62 u63 u64 u65 u66 u67 u68 u69 u70 u71 u72 u73 u74 u75 u76 u77 u78 u79 u80 u81 u82 u83 u84 u85 u86 u87 u88 u89 u90 u91 u92 u93 u94 u95 u96 u97 u98 u99 u100 u101 u102 u103 u104 u105 u106 u107 u108 u109 u110 u111 u112 u113 u114 u115 u116 u117 u118 u119 u120 u121 u122 u123 u124 u125 u126 u127 u128 u129 u130 u131 u132 u133 u134 u135 u136 u137 u138 u139 u140 u141 u142 u143 u144 u145 u146 u147 u148 u149 u150 u151 u152 u153 u154 u155 u156 u157 u158 u159 u160 u161 u162 u163 u164 u165 u166 u167 u168 u169 u170 u171 u172 u173 u174 u175 u176 u177 u178 u179 u180 u181 u182 u183 u184 u185 u186 u187 u188 u189 u190 u191 u192 u193 u194 u195 u196 u197 u198 u199 u200 u201 u202 u203 u204 u205 u206 u207 u208 u209 u210 u211 u212 u213 u214 u215 u216 u217 u218 u219 u220 u221 u222 u223 u224 u225 u226 u227 u228 u229 u230 u231 u232 u233 u234 u235 u236, Q .normal ⟨List.toArray ((.int .u32 e0) :: (.slice ad n cap) :: (undef) :: (undef) :: (u4) :: (.pointer (some ⟨p, 0, none⟩)) :: (.pointer (some ⟨q, 0, none⟩)) :: (nv) :: (uv) :: (hv) :: (dv) :: (tv) :: (.int .i64 (x1 : Int)) :: (.int .i64 (i : Int)) :: (.pointer (some ⟨pa, 0, none⟩)) :: (.int .i64 (j : Int)) :: (.int .u32 S.E.epoch) :: u17 :: u18 :: u19 :: u20 :: u21 :: u22 :: u23 :: u24 :: (u25) :: (u26) :: (u27) :: (u28) :: (u29) :: (u30) :: (u31) :: (u32) :: (u33) :: (u34) :: u35 :: u36 :: u37 :: u38 :: u39 :: u40 :: u41 :: u42 :: u43 :: u44 :: u45 :: u46 :: u47 :: u48 :: u49 :: u50 :: u51 :: u52 :: u53 :: u54 :: u55 :: u56 :: u57 :: u58 :: u59 :: u60 :: u61 :: u62 :: u63 :: u64 :: u65 :: u66 :: u67 :: u68 :: u69 :: u70 :: u71 :: u72 :: u73 :: u74 :: u75 :: u76 :: u77 :: u78 :: u79 :: u80 :: u81 :: u82 :: u83 :: u84 :: u85 :: u86 :: u87 :: u88 :: u89 :: u90 :: u91 :: u92 :: u93 :: u94 :: u95 :: u96 :: u97 :: u98 :: u99 :: u100 :: u101 :: u102 :: u103 :: u104 :: u105 :: u106 :: u107 :: u108 :: u109 :: u110 :: u111 :: u112 :: u113 :: u114 :: u115 :: u116 :: u117 :: u118 :: u119 :: u120 :: u121 :: u122 :: u123 :: u124 :: u125 :: u126 :: u127 :: u128 :: u129 :: u130 :: u131 :: u132 :: u133 :: u134 :: u135 :: u136 :: u137 :: u138 :: u139 :: u140 :: u141 :: u142 :: u143 :: u144 :: u145 :: u146 :: u147 :: u148 :: u149 :: u150 :: u151 :: u152 :: u153 :: u154 :: u155 :: u156 :: u157 :: u158 :: u159 :: u160 :: u161 :: u162 :: u163 :: u164 :: u165 :: u166 :: u167 :: u168 :: u169 :: u170 :: u171 :: u172 :: u173 :: u174 :: u175 :: u176 :: u177 :: u178 :: u179 :: u180 :: u181 :: u182 :: u183 :: u184 :: u185 :: u186 :: u187 :: u188 :: u189 :: u190 :: u191 :: u192 :: u193 :: u194 :: u195 :: u196 :: u197 :: u198 :: u199 :: u200 :: u201 :: u202 :: u203 :: u204 :: u205 :: u206 :: u207 :: u208 :: u209 :: u210 :: u211 :: u212 :: u213 :: u214 :: u215 :: u216 :: u217 :: u218 :: u219 :: u220 :: u221 :: u222 :: u223 :: u224 :: u225 :: u226 :: u227 :: u228 :: u229 :: u230 :: u231 :: u232 :: u233 :: u234 :: u235 :: u236 :: (u237) :: []), []⟩ wx)) :
    Code.wp Try.prog (pickC [1, 1, 1, 0, 1, 0, 0, 1, 0, 0, 1, 1, 1, 1, 0, 1] (Try.f10.body.getD .skip)) Q ⟨List.toArray ((.int .u32 e0) :: (.slice ad n cap) :: (undef) :: (undef) :: u4 :: (.pointer (some ⟨p, 0, none⟩)) :: (.pointer (some ⟨q, 0, none⟩)) :: (.slice an S.net.length cn) :: (.slice au S.up.length cu) :: (.slice ar S.heard.length cr) :: (.slice ad6 S.down.length cd6) :: (.slice at7 S.told.length ct) :: (.int .i64 (x : Int)) :: (.int .i64 (i : Int)) :: (.pointer (some ⟨pa, 0, none⟩)) :: (.int .i64 (j : Int)) :: (.int .u32 S.E.epoch) :: u17 :: u18 :: u19 :: u20 :: u21 :: u22 :: u23 :: u24 :: u25 :: u26 :: u27 :: u28 :: u29 :: u30 :: u31 :: u32 :: u33 :: u34 :: u35 :: u36 :: u37 :: u38 :: u39 :: u40 :: u41 :: u42 :: u43 :: u44 :: u45 :: u46 :: u47 :: u48 :: u49 :: u50 :: u51 :: u52 :: u53 :: u54 :: u55 :: u56 :: u57 :: u58 :: u59 :: u60 :: u61 :: u62 :: u63 :: u64 :: u65 :: u66 :: u67 :: u68 :: u69 :: u70 :: u71 :: u72 :: u73 :: u74 :: u75 :: u76 :: (.int .i64 k) :: u78 :: u79 :: u80 :: u81 :: u82 :: u83 :: u84 :: u85 :: u86 :: u87 :: u88 :: u89 :: u90 :: u91 :: u92 :: u93 :: u94 :: u95 :: u96 :: u97 :: u98 :: u99 :: u100 :: u101 :: u102 :: u103 :: u104 :: u105 :: u106 :: u107 :: u108 :: u109 :: u110 :: u111 :: u112 :: u113 :: u114 :: u115 :: u116 :: u117 :: u118 :: u119 :: u120 :: u121 :: u122 :: u123 :: u124 :: u125 :: u126 :: u127 :: u128 :: u129 :: u130 :: u131 :: u132 :: u133 :: u134 :: u135 :: u136 :: u137 :: u138 :: u139 :: u140 :: u141 :: u142 :: u143 :: u144 :: u145 :: u146 :: u147 :: u148 :: u149 :: u150 :: u151 :: u152 :: u153 :: u154 :: u155 :: u156 :: u157 :: u158 :: u159 :: u160 :: u161 :: u162 :: u163 :: u164 :: u165 :: u166 :: u167 :: u168 :: u169 :: u170 :: u171 :: u172 :: u173 :: u174 :: u175 :: u176 :: u177 :: u178 :: u179 :: u180 :: u181 :: u182 :: u183 :: u184 :: u185 :: u186 :: u187 :: u188 :: u189 :: u190 :: u191 :: u192 :: u193 :: u194 :: u195 :: u196 :: u197 :: u198 :: u199 :: u200 :: u201 :: u202 :: u203 :: u204 :: u205 :: u206 :: u207 :: u208 :: u209 :: u210 :: u211 :: u212 :: u213 :: u214 :: u215 :: u216 :: u217 :: u218 :: u219 :: u220 :: u221 :: u222 :: u223 :: u224 :: u225 :: u226 :: u227 :: u228 :: u229 :: u230 :: u231 :: u232 :: u233 :: u234 :: u235 :: u236 :: u237 :: []), []⟩ wB := by
  obtain ⟨_, _, e1, hnn, hcn, _⟩ := HA5.out.m.n.form
  obtain ⟨_, _, e2, hnu, hcu, _⟩ := HA5.out.m.u.form
  obtain ⟨_, _, e3, hnr, hcr, _⟩ := HA5.out.m.r.form
  obtain ⟨_, _, e4, hnd, hcd, _⟩ := HA5.out.m.d.form
  obtain ⟨_, _, e5, hnt, hct, _⟩ := HA5.out.m.t.form
  cases e1; cases e2; cases e3; cases e4; cases e5
  unfold maxLen at hcn hcu hcr hcd hct
  have hl3 := HI2.out.nn
  have hl4 := HI2.out.nu
  have hl5 := HI2.out.nr
  have hl6 := HI2.out.nd
  have hl7 := HI2.out.nt
  conv => arg 2; whnf
  subst hk6
  by_cases hz0 : 0 < S.net.length
  · have hz1 : ¬ (S.net.length : Int) = 0 := by omega
    have hjl := hj hz0
    have hji : (j : Int) < (S.net.length : Int) := by omega
    obtain ⟨mz, hmz⟩ : ∃ mz, S.net[j]? = some mz := ⟨_, List.getElem?_eq_getElem hjl⟩
    have HMEM : Hid (mz ∈ S.net) := Lib.hid (List.mem_of_getElem? hmz)
    have hok : Hid mz.Ok := Lib.hid (HI2.out.ph.mid mz HMEM.out).ok
    obtain ⟨g, rfl, x0, x1, x2, x3, x4, x5, x6⟩ := HA5.out.m.n.msg rfl hmz
    clear hmz
    go_upto_region 36 with fail
    obtain ⟨wM, hwM⟩ : ∃ wM, wM = wB.alloc (.cells #[.int .i64 mz.node, .bool mz.up, .int .u32 mz.epoch, .int .i64 mz.kind, .int .u32 mz.ack, .int .u32 mz.seq, .string mz.body] 65) := ⟨_, rfl⟩
    obtain ⟨pm, hpm⟩ : ∃ pm, pm = wB.heap.size := ⟨_, rfl⟩
    have hM : ∃ cM, LivM w wM p q (.slice (some ⟨g, 0, none⟩) S.net.length cn) (.slice au S.up.length cu) (.slice ar S.heard.length cr) (.slice ad6 S.down.length cd6) (.slice at7 S.told.length ct) cM S := ⟨_, HA5.out.m.still (hwM ▸ (Mod.refl _ _).alloc _) 9⟩
    have HBM : Hid (Blk wM pm 65 [.int .i64 mz.node, .bool mz.up, .int .u32 mz.epoch, .int .i64 mz.kind, .int .u32 mz.ack, .int .u32 mz.seq, .string mz.body]) := Lib.hid (by rw [hwM, hpm]; exact Blk.new wB _ _)
    have HBA : Hid (Blk wM pa 82 [.int .i64 6, .int .i64 at_]) := Lib.hid (by rw [hwM]; exact HA5.out.box.alloc _)
    try rw [← hwM]
    try rw [← hpm]
    obtain ⟨cM, hM⟩ := hM
    have HMM := Lib.hid hM
    clear hM hwM hpm x0 x1 x2 x3 x4 x5 x6
    have kb0 := HBA.out.cell (j := 0) rfl
    have y0 := HBM.out.cell (j := 0) rfl
    have y1 := HBM.out.cell (j := 1) rfl
    have y2 := HBM.out.cell (j := 2) rfl
    have y3 := HBM.out.cell (j := 3) rfl
    have y4 := HBM.out.cell (j := 4) rfl
    have y5 := HBM.out.cell (j := 5) rfl
    have y6 := HBM.out.cell (j := 6) rfl
    go_wp2_with (at_builtin; go_loud (refine wpList_append_one Try.elMsg rfl (.tmp 163) (.tmp 165) rfl #[.int .i64 mz.node, .bool mz.up, .int .u32 mz.epoch, .int .i64 mz.kind, .int .u32 mz.ack, .int .u32 mz.seq, .string mz.body] _ _ _ _ (HMM.out.n.alloc _) _ (allocNew wM _) rfl rfl rfl (by simp [Value.oneCell']) (by omega) (by unfold maxLen; omega) ?_); intro v7 w7 hR hm7; have HM7 := Lib.hid (HMM.out.nM (l' := S.net ++ [mz]) (hR.mono fun k hk => hk.imp id fun h => by first | omega | exact allocLe h | (simp at h; omega)) ((Mod.allocThen hm7).row HMM.out.n) (by simp) (by rw [MsgV.vals_app]; rfl)); have HB7 := Lib.hid (HBA.out.keep (Mod.allocThen hm7) (fun e => HMM.out.n.ne HBA.out (by decide) e)); clear hR hm7 kb0 y0 y1 y2 y3 y4 y5 y6; have kb7 := HB7.out.cell (j := 0) rfl)
    refine HQ.out _ _ _ _ _ ({ S with net := S.net ++ [mz] }) _ (x) _ (by omega) (HM7.out) (HI2.out.twice HMEM.out) _ _ _ _ _ _ _ _ _ _ _ _ _ _ _ _ _ _ _ _ _ _ _ _ _ _ _ _ _ _ _ _ _ _ _ _ _ _ _ _ _ _ _ _ _ _ _ _ _ _ _ _ _ _ _ _ _ _ _ _ _ _ _ _ _ _ _ _ _ _ _ _ _ _ _ _ _ _ _ _ _ _ _ _ _ _ _ _ _ _ _ _ _ _ _ _ _ _ _ _ _ _ _ _ _ _ _ _ _ _ _ _ _ _ _ _ _ _ _ _ _ _ _ _ _ _ _ _ _ _ _ _ _ _ _ _ _ _ _ _ _ _ _ _ _ _ _ _ _ _ _ _ _ _ _ _ _ _ _ _ _ _ _ _ _ _ _ _ _ _ _ _ _ _ _ _ _ _ _ _ _ _ _ _ _ _ _ _ _ _ _ _ _ _ _ _ _ _ _ _ _ _ _ _ _ _ _ _ _ _
  · have hz1 : (S.net.length : Int) = 0 := by omega
    go_wp2_with fail
    refine HQ.out _ _ _ _ _ (S) c5 (x) _ (by omega) (HA5.out.m) (HI2.out.skip) _ _ _ _ _ _ _ _ _ _ _ _ _ _ _ _ _ _ _ _ _ _ _ _ _ _ _ _ _ _ _ _ _ _ _ _ _ _ _ _ _ _ _ _ _ _ _ _ _ _ _ _ _ _ _ _ _ _ _ _ _ _ _ _ _ _ _ _ _ _ _ _ _ _ _ _ _ _ _ _ _ _ _ _ _ _ _ _ _ _ _ _ _ _ _ _ _ _ _ _ _ _ _ _ _ _ _ _ _ _ _ _ _ _ _ _ _ _ _ _ _ _ _ _ _ _ _ _ _ _ _ _ _ _ _ _ _ _ _ _ _ _ _ _ _ _ _ _ _ _ _ _ _ _ _ _ _ _ _ _ _ _ _ _ _ _ _ _ _ _ _ _ _ _ _ _ _ _ _ _ _ _ _ _ _ _ _ _ _ _ _ _ _ _ _ _ _ _ _ _ _ _ _ _ _ _ _ _ _ _

end Go.Proofs.Ytidkapanpieflaa
namespace Go.Proofs.Ytidkapanpieflaa
open Go.RowKit
set_option linter.unusedVariables false
set_option linter.unusedSimpArgs false
set_option maxHeartbeats 8000000 in
set_option maxRecDepth 100000 in
theorem liv_k2 {e0 k at_ : Int} {ad : Option Addr} {n cap p q pa x i j cc : Nat} {an au ar ad6 at7 : Option Addr} {cn cu cr cd6 ct : Nat} {S : LS} {w wB : World} {c5 : Nat → Nat} {u4 u17 u18 u19 u20 u21 u22 u23 u24 u25 u26 u27 u28 u29 u30 u31 u32 u33 u34 u35 u36 u37 u38 u39 u40 u41 u42 u43 u44 u45 u46 u47 u48 u49 u50 u51 u52 u53 u54 u55 u56 u57 u58 u59 u60 u61 u62 u63 u64 u65 u66 u67 u68 u69 u70 u71 u72 u73 u74 u75 u76 u78 u79 u80 u81 u82 u83 u84 u85 u86 u87 u88 u89 u90 u91 u92 u93 u94 u95 u96 u97 u98 u99 u100 u101 u102 u103 u104 u105 u106 u107 u108 u109 u110 u111 u112 u113 u114 u115 u116 u117 u118 u119 u120 u121 u122 u123 u124 u125 u126 u127 u128 u129 u130 u131 u132 u133 u134 u135 u136 u137 u138 u139 u140 u141 u142 u143 u144 u145 u146 u147 u148 u149 u150 u151 u152 u153 u154 u155 u156 u157 u158 u159 u160 u161 u162 u163 u164 u165 u166 u167 u168 u169 u170 u171 u172 u173 u174 u175 u176 u177 u178 u179 u180 u181 u182 u183 u184 u185 u186 u187 u188 u189 u190 u191 u192 u193 u194 u195 u196 u197 u198 u199 u200 u201 u202 u203 u204 u205 u206 u207 u208 u209 u210 u211 u212 u213 u214 u215 u216 u217 u218 u219 u220 u221 u222 u223 u224 u225 u226 u227 u228 u229 u230 u231 u232 u233 u234 u235 u236 u237 : Value}
    (HA5 : Hid (LivA w wB p q pa (.slice an S.net.length cn) (.slice au S.up.length cu) (.slice ar S.heard.length cr) (.slice ad6 S.down.length cd6) (.slice at7 S.told.length ct) c5 S k at_)) (HI2 : Hid (InvL e0 S cc i)) (hlt2 : i < 120) (hx : x ≤ i) (hj : 0 < S.net.length → j < S.net.length) (hk2 : k = 2)
    {Q : Exit → Act → World → Prop} (HP : ∀ d v c a w, Q (.panic c) (Act.put a d v) w → Q (.panic c) a w)
    (HQ : Hid (∀ nv uv hv dv tv S1 c6 (x1 : Nat) wx, x1 ≤ i + 1 → LivM w wx p q nv uv hv dv tv c6 S1 → MidR e0 S.E.epoch S1 i → ∀ u17 u18 u19 u20 u21 u22 u23 u24 u35 u36 u37 u38 u39 u40 u41 u42 u43 u44 u45 u46 u47 u48 u49 u50 u51 u52 u53 u54 u55 u56 u57 u58 u59 u60 u61 u62 u63 u64 u65 u66 u67 u68 u69 u70 u71 u72 u73 u74 u75 u76 u77 u78 u79 u80 u81 u82 u83 u84 u85 u86 u87 u88 u89 u90 u91 u92 u93 u94 u95 u96 u97 u98 u99 u100 u101 u102 u103 u104 u105 u106 u107 u108 u109 u110 u111 u112 u113 u114 u115 u116 u117 u118 u119 u120 u121 u122 u123 u124 u125 u126 u127 u128 u129 u130 u131 u132 u133 u134 u135 u136 u137 u138 u139 u140 u141 u142 u143 u144 u145 u146 u147 u148 u149 u150 u151 u152 u153 u154 u155 u156 u157 u158 u159 u160 u161 u162 u163 u164 u165 u166 u167 u168 u169 u170 u171 u172 u173 u174 u175 u176 u177 u178 u179 u180 u181 u182 u183 u184 u185 u186 u187 u188 u189 u190 u191 u192 u193 u194 u195 u196 u197 u198 u199 u200 u201 u202 u203 u204 u205 u206 u207 u208 u209 u210 u211 u212 u213 u214 u215 u216 u217 u218 u219 u220 u221 u222 u223 u224 u225 u226 u227 u228 u229 u230 u231 u232 u233 u234 u235 u236, Q .normal ⟨List.toArray ((.int .u32 e0) :: (.slice ad n cap) :: (undef) :: (undef) :: (u4) :: (.pointer (some ⟨p, 0, none⟩)) :: (.pointer (some ⟨q, 0, none⟩)) :: (nv) :: (uv) :: (hv) :: (dv) :: (tv) :: (.int .i64 (x1 : Int)) :: (.int .i64 (i : Int)) :: (.pointer (some ⟨pa, 0, none⟩)) :: (.int .i64 (j : Int)) :: (.int .u32 S.E.epoch) :: u17 :: u18 :: u19 :: u20 :: u21 :: u22 :: u23 :: u24 :: (u25) :: (u26) :: (u27) :: (u28) :: (u29) :: (u30) :: (u31) :: (u32) :: (u33) :: (u34) :: u35 :: u36 :: u37 :: u38 :: u39 :: u40 :: u41 :: u42 :: u43 :: u44 :: u45 :: u46 :: u47 :: u48 :: u49 :: u50 :: u51 :: u52 :: u53 :: u54 :: u55 :: u56 :: u57 :: u58 :: u59 :: u60 :: u61 :: u62 :: u63 :: u64 :: u65 :: u66 :: u67 :: u68 :: u69 :: u70 :: u71 :: u72 :: u73 :: u74 :: u75 :: u76 :: u77 :: u78 :: u79 :: u80 :: u81 :: u82 :: u83 :: u84 :: u85 :: u86 :: u87 :: u88 :: u89 :: u90 :: u91 :: u92 :: u93 :: u94 :: u95 :: u96 :: u97 :: u98 :: u99 :: u100 :: u101 :: u102 :: u103 :: u104 :: u105 :: u106 :: u107 :: u108 :: u109 :: u110 :: u111 :: u112 :: u113 :: u114 :: u115 :: u116 :: u117 :: u118 :: u119 :: u120 :: u121 :: u122 :: u123 :: u124 :: u125 :: u126 :: u127 :: u128 :: u129 :: u130 :: u131 :: u132 :: u133 :: u134 :: u135 :: u136 :: u137 :: u138 :: u139 :: u140 :: u141 :: u142 :: u143 :: u144 :: u145 :: u146 :: u147 :: u148 :: u149 :: u150 :: u151 :: u152 :: u153 :: u154 :: u155 :: u156 :: u157 :: u158 :: u159 :: u160 :: u161 :: u162 :: u163 :: u164 :: u165 :: u166 :: u167 :: u168 :: u169 :: u170 :: u171 :: u172 :: u173 :: u174 :: u175 :: u176 :: u177 :: u178 :: u179 :: u180 :: u181 :: u182 :: u183 :: u184 :: u185 :: u186 :: u187 :: u188 :: u189 :: u190 :: u191 :: u192 :: u193 :: u194 :: u195 :: u196 :: u197 :: u198 :: u199 :: u200 :: u201 :: u202 :: u203 :: u204 :: u205 :: u206 :: u207 :: u208 :: u209 :: u210 :: u211 :: u212 :: u213 :: u214 :: u215 :: u216 :: u217 :: u218 :: u219 :: u220 :: u221 :: u222 :: u223 :: u224 :: u225 :: u226 :: u227 :: u228 :: u229 :: u230 :: u231 :: u232 :: u233 :: u234 :: u235 :: u236 :: (u237) :: []), []⟩ wx)) :
    Code.wp Try.prog (pickC [1, 1, 1, 0, 1, 0, 0, 1, 0, 0, 1, 1, 1, 1, 0, 1] (Try.f10.body.getD .skip)) Q ⟨List.toArray ((.int .u32 e0) :: (.slice ad n cap) :: (undef) :: (undef) :: u4 :: (.pointer (some ⟨p, 0, none⟩)) :: (.pointer (some ⟨q, 0, none⟩)) :: (.slice an S.net.length cn) :: (.slice au S.up.length cu) :: (.slice ar S.heard.length cr) :: (.slice ad6 S.down.length cd6) :: (.slice at7 S.told.length ct) :: (.int .i64 (x : Int)) :: (.int .i64 (i : Int)) :: (.pointer (some ⟨pa, 0, none⟩)) :: (.int .i64 (j : Int)) :: (.int .u32 S.E.epoch) :: u17 :: u18 :: u19 :: u20 :: u21 :: u22 :: u23 :: u24 :: u25 :: u26 :: u27 :: u28 :: u29 :: u30 :: u31 :: u32 :: u33 :: u34 :: u35 :: u36 :: u37 :: u38 :: u39 :: u40 :: u41 :: u42 :: u43 :: u44 :: u45 :: u46 :: u47 :: u48 :: u49 :: u50 :: u51 :: u52 :: u53 :: u54 :: u55 :: u56 :: u57 :: u58 :: u59 :: u60 :: u61 :: u62 :: u63 :: u64 :: u65 :: u66 :: u67 :: u68 :: u69 :: u70 :: u71 :: u72 :: u73 :: u74 :: u75 :: u76 :: (.int .i64 k) :: u78 :: u79 :: u80 :: u81 :: u82 :: u83 :: u84 :: u85 :: u86 :: u87 :: u88 :: u89 :: u90 :: u91 :: u92 :: u93 :: u94 :: u95 :: u96 :: u97 :: u98 :: u99 :: u100 :: u101 :: u102 :: u103 :: u104 :: u105 :: u106 :: u107 :: u108 :: u109 :: u110 :: u111 :: u112 :: u113 :: u114 :: u115 :: u116 :: u117 :: u118 :: u119 :: u120 :: u121 :: u122 :: u123 :: u124 :: u125 :: u126 :: u127 :: u128 :: u129 :: u130 :: u131 :: u132 :: u133 :: u134 :: u135 :: u136 :: u137 :: u138 :: u139 :: u140 :: u141 :: u142 :: u143 :: u144 :: u145 :: u146 :: u147 :: u148 :: u149 :: u150 :: u151 :: u152 :: u153 :: u154 :: u155 :: u156 :: u157 :: u158 :: u159 :: u160 :: u161 :: u162 :: u163 :: u164 :: u165 :: u166 :: u167 :: u168 :: u169 :: u170 :: u171 :: u172 :: u173 :: u174 :: u175 :: u176 :: u177 :: u178 :: u179 :: u180 :: u181 :: u182 :: u183 :: u184 :: u185 :: u186 :: u187 :: u188 :: u189 :: u190 :: u191 :: u192 :: u193 :: u194 :: u195 :: u196 :: u197 :: u198 :: u199 :: u200 :: u201 :: u202 :: u203 :: u204 :: u205 :: u206 :: u207 :: u208 :: u209 :: u210 :: u211 :: u212 :: u213 :: u214 :: u215 :: u216 :: u217 :: u218 :: u219 :: u220 :: u221 :: u222 :: u223 :: u224 :: u225 :: u226 :: u227 :: u228 :: u229 :: u230 :: u231 :: u232 :: u233 :: u234 :: u235 :: u236 :: u237 :: []), []⟩ wB := by
  obtain ⟨_, _, e1, hnn, hcn, _⟩ := HA5.out.m.n.form
  obtain ⟨_, _, e2, hnu, hcu, _⟩ := HA5.out.m.u.form
  obtain ⟨_, _, e3, hnr, hcr, _⟩ := HA5.out.m.r.form
  obtain ⟨_, _, e4, hnd, hcd, _⟩ := HA5.out.m.d.form
  obtain ⟨_, _, e5, hnt, hct, _⟩ := HA5.out.m.t.form
  cases e1; cases e2; cases e3; cases e4; cases e5
  unfold maxLen at hcn hcu hcr hcd hct
  have hl3 := HI2.out.nn
  have hl4 := HI2.out.nu
  have hl5 := HI2.out.nr
  have hl6 := HI2.out.nd
  have hl7 := HI2.out.nt
  conv => arg 2; whnf
  subst hk2
  obtain ⟨hoo, hio, heo⟩ := HA5.out.m.e.life
  have hub := HA5.out.m.h.ok
  have hl1 := HI2.out.l1
  have hid := HI2.out.ph.id.node
  have hrlen := round_len hoo
  obtain ⟨hln1, hln2⟩ := hubRound_len hl1 fun L hL => (hub L hL).1
  have HMD := Lib.hid (HI2.out.send2 (by omega) hio heo fun L hL => ⟨(hub L hL).2.1, (hub L hL).2.2.1⟩)
  unfold Life.round at hrlen
  rw [List.length_append] at hrlen
  obtain ⟨m1, hm1e⟩ : ∃ m, m = S.E.sends := ⟨_, rfl⟩
  obtain ⟨m2, hm2e⟩ : ∃ m, m = S.l.flatMap Life.sends := ⟨_, rfl⟩
  obtain ⟨m3, hm3e⟩ : ∃ m, m = S.E.sent.beat := ⟨_, rfl⟩
  obtain ⟨m4, hm4e⟩ : ∃ m, m = beats (S.l.map Life.sent) := ⟨_, rfl⟩
  rw [← hm1e, ← hm3e] at hrlen
  rw [← hm2e] at hln1
  rw [← hm4e] at hln2
  have hq1 : m1.length ≤ 200 := by omega
  have hq3 : m3.length ≤ 200 := by omega
  have HE1 := Lib.hid hm1e
  have HE2 := Lib.hid hm2e
  have HE3 := Lib.hid hm3e
  have HE4 := Lib.hid hm4e
  have HL1 := Lib.hid hl1
  clear hoo hio heo hub hl1 hid hrlen hm1e hm2e hm3e hm4e
  go_wp2_with fail
  refine (ESend_any p _ S.E _ HA5.out.m.e).mono ?_; rintro e w6 ⟨v6, rfl, hv6, he, hm⟩
  obtain ⟨c7, hM6, hV6⟩ : ∃ c7, LivM w w6 p q (.slice an S.net.length cn) (.slice au S.up.length cu) (.slice ar S.heard.length cr) (.slice ad6 S.down.length cd6) (.slice at7 S.told.length ct) c7 { S with E := S.E.sent } ∧ Row w6 (fun k => c7 k = 8) 65 7 v6 m1.length (MsgV.vals m1) := ⟨_, HA5.out.m.eS he hm 8, by rw [HE1.out]; unfold Life.sends; rw [List.length_map]; exact hv6.monoLt (paint_born c5 _ w6 8)⟩
  have HM6 := Lib.hid hM6
  have HV6 := Lib.hid hV6
  clear he hm hv6 hM6 hV6
  go_wp2_with (at_builtin; go_loud (refine wpList_append_reads Try.elMsg rfl (.tmp 117) (.tmp 119) rfl _ _ _ _ rfl HM6.out.n _ m1.length (MsgV.vals m1) rfl HV6.out.reads (by rw [MsgV.vals_len]) (MsgV.vals_all _) (by simp only [List.length_append]; omega) (by unfold maxLen; simp only [List.length_append]; omega) ?_); intro v7 w7 hR7 hm7; have HM7 := Lib.hid (HM6.out.nM (l' := S.net ++ m1) hR7 hm7 (by simp only [List.length_append]) (MsgV.vals_app _ _).symm); clear hR7 hm7)
  refine (HSend_own HM7.out.h (by have := HL1.out; show S.l.length ≤ 1000; omega)).mono ?_; rintro e w8 ⟨v8, rfl, hv8, hx, hm⟩
  obtain ⟨c8, hM8, hV8, _⟩ := HM7.out.hV hx hv8 hm
  rw [← HE2.out] at hV8
  have HM8 := Lib.hid hM8
  have HV8 := Lib.hid hV8
  clear hx hv8 hm hM8 hV8 HM6 HV6 HM7
  go_wp2_with (at_builtin; go_loud (refine wpList_append_reads Try.elMsg rfl (.tmp 120) (.tmp 122) rfl _ _ _ _ rfl HM8.out.n _ m2.length (MsgV.vals m2) rfl HV8.out.reads (by rw [MsgV.vals_len]) (MsgV.vals_all _) (by simp only [List.length_append]; omega) (by unfold maxLen; simp only [List.length_append]; omega) ?_); intro v9 w9 hR9 hm9; have HM9 := Lib.hid (HM8.out.nM (l' := (S.net ++ m1) ++ m2) hR9 hm9 (by simp only [List.length_append]) (MsgV.vals_app _ _).symm); clear hR9 hm9)
  refine HQ.out _ _ _ _ _ (S.esend.hsend) _ (x) _ (by omega) (HM9.out.to (by rw [HE1.out, HE2.out]; rfl)) (HMD.out) _ _ _ _ _ _ _ _ _ _ _ _ _ _ _ _ _ _ _ _ _ _ _ _ _ _ _ _ _ _ _ _ _ _ _ _ _ _ _ _ _ _ _ _ _ _ _ _ _ _ _ _ _ _ _ _ _ _ _ _ _ _ _ _ _ _ _ _ _ _ _ _ _ _ _ _ _ _ _ _ _ _ _ _ _ _ _ _ _ _ _ _ _ _ _ _ _ _ _ _ _ _ _ _ _ _ _ _ _ _ _ _ _ _ _ _ _ _ _ _ _ _ _ _ _ _ _ _ _ _ _ _ _ _ _ _ _ _ _ _ _ _ _ _ _ _ _ _ _ _ _ _ _ _ _ _ _ _ _ _ _ _ _ _ _ _ _ _ _ _ _ _ _ _ _ _ _ _ _ _ _ _ _ _ _ _ _ _ _ _ _ _ _ _ _ _ _ _ _ _ _ _ _ _ _ _ _ _ _ _

end Go.Proofs.Ytidkapanpieflaa
namespace Go.Proofs.Ytidkapanpieflaa
open Go.RowKit
set_option linter.unusedVariables false
set_option linter.unusedSimpArgs false
set_option maxHeartbeats 8000000 in
set_option maxRecDepth 100000 in
theorem liv_k1 {e0 k at_ : Int} {ad : Option Addr} {n cap p q pa x i j cc : Nat} {an au ar ad6 at7 : Option Addr} {cn cu cr cd6 ct : Nat} {S : LS} {w wB : World} {c5 : Nat → Nat} {u4 u17 u18 u19 u20 u21 u22 u23 u24 u25 u26 u27 u28 u29 u30 u31 u32 u33 u34 u35 u36 u37 u38 u39 u40 u41 u42 u43 u44 u45 u46 u47 u48 u49 u50 u51 u52 u53 u54 u55 u56 u57 u58 u59 u60 u61 u62 u63 u64 u65 u66 u67 u68 u69 u70 u71 u72 u73 u74 u75 u76 u78 u79 u80 u81 u82 u83 u84 u85 u86 u87 u88 u89 u90 u91 u92 u93 u94 u95 u96 u97 u98 u99 u100 u101 u102 u103 u104 u105 u106 u107 u108 u109 u110 u111 u112 u113 u114 u115 u116 u117 u118 u119 u120 u121 u122 u123 u124 u125 u126 u127 u128 u129 u130 u131 u132 u133 u134 u135 u136 u137 u138 u139 u140 u141 u142 u143 u144 u145 u146 u147 u148 u149 u150 u151 u152 u153 u154 u155 u156 u157 u158 u159 u160 u161 u162 u163 u164 u165 u166 u167 u168 u169 u170 u171 u172 u173 u174 u175 u176 u177 u178 u179 u180 u181 u182 u183 u184 u185 u186 u187 u188 u189 u190 u191 u192 u193 u194 u195 u196 u197 u198 u199 u200 u201 u202 u203 u204 u205 u206 u207 u208 u209 u210 u211 u212 u213 u214 u215 u216 u217 u218 u219 u220 u221 u222 u223 u224 u225 u226 u227 u228 u229 u230 u231 u232 u233 u234 u235 u236 u237 : Value}
    (HA5 : Hid (LivA w wB p q pa (.slice an S.net.length cn) (.slice au S.up.length cu) (.slice ar S.heard.length cr) (.slice ad6 S.down.length cd6) (.slice at7 S.told.length ct) c5 S k at_)) (HI2 : Hid (InvL e0 S cc i)) (hlt2 : i < 120) (hx : x ≤ i) (hj : 0 < S.net.length → j < S.net.length) (hk1 : k = 1)
    {Q : Exit → Act → World → Prop} (HP : ∀ d v c a w, Q (.panic c) (Act.put a d v) w → Q (.panic c) a w)
    (HQ : Hid (∀ nv uv hv dv tv S1 c6 (x1 : Nat) wx, x1 ≤ i + 1 → LivM w wx p q nv uv hv dv tv c6 S1 → MidR e0 S.E.epoch S1 i → ∀ u17 u18 u19 u20 u21 u22 u23 u24 u35 u36 u37 u38 u39 u40 u41 u42 u43 u44 u45 u46 u47 u48 u49 u50 u51 u52 u53 u54 u55 u56 u57 u58 u59 u60 u61 u62 u63 u64 u65 u66 u67 u68 u69 u70 u71 u72 u73 u74 u75 u76 u77 u78 u79 u80 u81 u82 u83 u84 u85 u86 u87 u88 u89 u90 u91 u92 u93 u94 u95 u96 u97 u98 u99 u100 u101 u102 u103 u104 u105 u106 u107 u108 u109 u110 u111 u112 u113 u114 u115 u116 u117 u118 u119 u120 u121 u122 u123 u124 u125 u126 u127 u128 u129 u130 u131 u132 u133 u134 u135 u136 u137 u138 u139 u140 u141 u142 u143 u144 u145 u146 u147 u148 u149 u150 u151 u152 u153 u154 u155 u156 u157 u158 u159 u160 u161 u162 u163 u164 u165 u166 u167 u168 u169 u170 u171 u172 u173 u174 u175 u176 u177 u178 u179 u180 u181 u182 u183 u184 u185 u186 u187 u188 u189 u190 u191 u192 u193 u194 u195 u196 u197 u198 u199 u200 u201 u202 u203 u204 u205 u206 u207 u208 u209 u210 u211 u212 u213 u214 u215 u216 u217 u218 u219 u220 u221 u222 u223 u224 u225 u226 u227 u228 u229 u230 u231 u232 u233 u234 u235 u236, Q .normal ⟨List.toArray ((.int .u32 e0) :: (.slice ad n cap) :: (undef) :: (undef) :: (u4) :: (.pointer (some ⟨p, 0, none⟩)) :: (.pointer (some ⟨q, 0, none⟩)) :: (nv) :: (uv) :: (hv) :: (dv) :: (tv) :: (.int .i64 (x1 : Int)) :: (.int .i64 (i : Int)) :: (.pointer (some ⟨pa, 0, none⟩)) :: (.int .i64 (j : Int)) :: (.int .u32 S.E.epoch) :: u17 :: u18 :: u19 :: u20 :: u21 :: u22 :: u23 :: u24 :: (u25) :: (u26) :: (u27) :: (u28) :: (u29) :: (u30) :: (u31) :: (u32) :: (u33) :: (u34) :: u35 :: u36 :: u37 :: u38 :: u39 :: u40 :: u41 :: u42 :: u43 :: u44 :: u45 :: u46 :: u47 :: u48 :: u49 :: u50 :: u51 :: u52 :: u53 :: u54 :: u55 :: u56 :: u57 :: u58 :: u59 :: u60 :: u61 :: u62 :: u63 :: u64 :: u65 :: u66 :: u67 :: u68 :: u69 :: u70 :: u71 :: u72 :: u73 :: u74 :: u75 :: u76 :: u77 :: u78 :: u79 :: u80 :: u81 :: u82 :: u83 :: u84 :: u85 :: u86 :: u87 :: u88 :: u89 :: u90 :: u91 :: u92 :: u93 :: u94 :: u95 :: u96 :: u97 :: u98 :: u99 :: u100 :: u101 :: u102 :: u103 :: u104 :: u105 :: u106 :: u107 :: u108 :: u109 :: u110 :: u111 :: u112 :: u113 :: u114 :: u115 :: u116 :: u117 :: u118 :: u119 :: u120 :: u121 :: u122 :: u123 :: u124 :: u125 :: u126 :: u127 :: u128 :: u129 :: u130 :: u131 :: u132 :: u133 :: u134 :: u135 :: u136 :: u137 :: u138 :: u139 :: u140 :: u141 :: u142 :: u143 :: u144 :: u145 :: u146 :: u147 :: u148 :: u149 :: u150 :: u151 :: u152 :: u153 :: u154 :: u155 :: u156 :: u157 :: u158 :: u159 :: u160 :: u161 :: u162 :: u163 :: u164 :: u165 :: u166 :: u167 :: u168 :: u169 :: u170 :: u171 :: u172 :: u173 :: u174 :: u175 :: u176 :: u177 :: u178 :: u179 :: u180 :: u181 :: u182 :: u183 :: u184 :: u185 :: u186 :: u187 :: u188 :: u189 :: u190 :: u191 :: u192 :: u193 :: u194 :: u195 :: u196 :: u197 :: u198 :: u199 :: u200 :: u201 :: u202 :: u203 :: u204 :: u205 :: u206 :: u207 :: u208 :: u209 :: u210 :: u211 :: u212 :: u213 :: u214 :: u215 :: u216 :: u217 :: u218 :: u219 :: u220 :: u221 :: u222 :: u223 :: u224 :: u225 :: u226 :: u227 :: u228 :: u229 :: u230 :: u231 :: u232 :: u233 :: u234 :: u235 :: u236 :: (u237) :: []), []⟩ wx)) :
    Code.wp Try.prog (pickC [1, 1, 1, 0, 1, 0, 0, 1, 0, 0, 1, 1, 1, 1, 0, 1] (Try.f10.body.getD .skip)) Q ⟨List.toArray ((.int .u32 e0) :: (.slice ad n cap) :: (undef) :: (undef) :: u4 :: (.pointer (some ⟨p, 0, none⟩)) :: (.pointer (some ⟨q, 0, none⟩)) :: (.slice an S.net.length cn) :: (.slice au S.up.length cu) :: (.slice ar S.heard.length cr) :: (.slice ad6 S.down.length cd6) :: (.slice at7 S.told.length ct) :: (.int .i64 (x : Int)) :: (.int .i64 (i : Int)) :: (.pointer (some ⟨pa, 0, none⟩)) :: (.int .i64 (j : Int)) :: (.int .u32 S.E.epoch) :: u17 :: u18 :: u19 :: u20 :: u21 :: u22 :: u23 :: u24 :: u25 :: u26 :: u27 :: u28 :: u29 :: u30 :: u31 :: u32 :: u33 :: u34 :: u35 :: u36 :: u37 :: u38 :: u39 :: u40 :: u41 :: u42 :: u43 :: u44 :: u45 :: u46 :: u47 :: u48 :: u49 :: u50 :: u51 :: u52 :: u53 :: u54 :: u55 :: u56 :: u57 :: u58 :: u59 :: u60 :: u61 :: u62 :: u63 :: u64 :: u65 :: u66 :: u67 :: u68 :: u69 :: u70 :: u71 :: u72 :: u73 :: u74 :: u75 :: u76 :: (.int .i64 k) :: u78 :: u79 :: u80 :: u81 :: u82 :: u83 :: u84 :: u85 :: u86 :: u87 :: u88 :: u89 :: u90 :: u91 :: u92 :: u93 :: u94 :: u95 :: u96 :: u97 :: u98 :: u99 :: u100 :: u101 :: u102 :: u103 :: u104 :: u105 :: u106 :: u107 :: u108 :: u109 :: u110 :: u111 :: u112 :: u113 :: u114 :: u115 :: u116 :: u117 :: u118 :: u119 :: u120 :: u121 :: u122 :: u123 :: u124 :: u125 :: u126 :: u127 :: u128 :: u129 :: u130 :: u131 :: u132 :: u133 :: u134 :: u135 :: u136 :: u137 :: u138 :: u139 :: u140 :: u141 :: u142 :: u143 :: u144 :: u145 :: u146 :: u147 :: u148 :: u149 :: u150 :: u151 :: u152 :: u153 :: u154 :: u155 :: u156 :: u157 :: u158 :: u159 :: u160 :: u161 :: u162 :: u163 :: u164 :: u165 :: u166 :: u167 :: u168 :: u169 :: u170 :: u171 :: u172 :: u173 :: u174 :: u175 :: u176 :: u177 :: u178 :: u179 :: u180 :: u181 :: u182 :: u183 :: u184 :: u185 :: u186 :: u187 :: u188 :: u189 :: u190 :: u191 :: u192 :: u193 :: u194 :: u195 :: u196 :: u197 :: u198 :: u199 :: u200 :: u201 :: u202 :: u203 :: u204 :: u205 :: u206 :: u207 :: u208 :: u209 :: u210 :: u211 :: u212 :: u213 :: u214 :: u215 :: u216 :: u217 :: u218 :: u219 :: u220 :: u221 :: u222 :: u223 :: u224 :: u225 :: u226 :: u227 :: u228 :: u229 :: u230 :: u231 :: u232 :: u233 :: u234 :: u235 :: u236 :: u237 :: []), []⟩ wB := by
  obtain ⟨_, _, e1, hnn, hcn, _⟩ := HA5.out.m.n.form
  obtain ⟨_, _, e2, hnu, hcu, _⟩ := HA5.out.m.u.form
  obtain ⟨_, _, e3, hnr, hcr, _⟩ := HA5.out.m.r.form
  obtain ⟨_, _, e4, hnd, hcd, _⟩ := HA5.out.m.d.form
  obtain ⟨_, _, e5, hnt, hct, _⟩ := HA5.out.m.t.form
  cases e1; cases e2; cases e3; cases e4; cases e5
  unfold maxLen at hcn hcu hcr hcd hct
  have hl3 := HI2.out.nn
  have hl4 := HI2.out.nu
  have hl5 := HI2.out.nr
  have hl6 := HI2.out.nd
  have hl7 := HI2.out.nt
  conv => arg 2; whnf
  subst hk1
  have hxw : IntKind.i64.wrap ((x : Int) + 1) = ((x + 1 : Nat) : Int) := by rw [IntWalk.i64_in _ (by omega)]; rfl
  have hrt := rune_txt
  go_wp2_with fail
  clear hrt
  generalize Utf8.encode _ = b
  refine (HPush_any HA5.out.m.h 1 b).mono ?_; rintro e w6 ⟨rfl, he, hm⟩
  have HM6 := Lib.hid (HA5.out.m.hM he hm)
  have HMD := Lib.hid (HI2.out.hpush (by omega) b)
  clear he hm
  cases hf : ((hfind Life.node S.l 1).elim false fun L => L.out.full) with
  | true =>
    have HSP : Hid (S.hpush b = { { S with l := (hfind Life.node S.l 1).elim S.l fun L => hput Life.node S.l { L with out := L.out.push b } } with down := S.down ++ [b] }) := Lib.hid (by unfold LS.hpush; rw [if_pos hf])
    clear hf
    go_wp2_with (at_builtin; go_loud (refine wpList_append_one Try.elStr rfl (.tmp 111) (.tmp 113) rfl #[.string b] _ _ _ _ (HM6.out.d.alloc _) _ (allocNew w6 _) rfl rfl rfl (by simp [Value.oneCell']) (by dsimp only; omega) (by unfold maxLen; dsimp only; omega) ?_); intro v7 w7 hR hm7; have HM7 := Lib.hid (HM6.out.dM (l' := S.down ++ [b]) (hR.mono fun k hk => hk.imp id fun h => by first | omega | exact allocLe h | (simp at h; omega)) ((Mod.allocThen hm7).row HM6.out.d) (by simp) (by simp)); clear hR hm7)
    refine HQ.out _ _ _ _ _ (S.hpush b) _ (x + 1) _ (by omega) (HM7.out.to HSP.out.symm) (HMD.out) _ _ _ _ _ _ _ _ _ _ _ _ _ _ _ _ _ _ _ _ _ _ _ _ _ _ _ _ _ _ _ _ _ _ _ _ _ _ _ _ _ _ _ _ _ _ _ _ _ _ _ _ _ _ _ _ _ _ _ _ _ _ _ _ _ _ _ _ _ _ _ _ _ _ _ _ _ _ _ _ _ _ _ _ _ _ _ _ _ _ _ _ _ _ _ _ _ _ _ _ _ _ _ _ _ _ _ _ _ _ _ _ _ _ _ _ _ _ _ _ _ _ _ _ _ _ _ _ _ _ _ _ _ _ _ _ _ _ _ _ _ _ _ _ _ _ _ _ _ _ _ _ _ _ _ _ _ _ _ _ _ _ _ _ _ _ _ _ _ _ _ _ _ _ _ _ _ _ _ _ _ _ _ _ _ _ _ _ _ _ _ _ _ _ _ _ _ _ _ _ _ _ _ _ _ _ _ _ _ _
  | false =>
    have HSP : Hid (S.hpush b = { S with l := (hfind Life.node S.l 1).elim S.l fun L => hput Life.node S.l { L with out := L.out.push b } }) := Lib.hid (by unfold LS.hpush; rw [if_neg (by rw [hf]; decide)])
    clear hf
    go_wp2_with fail
    refine HQ.out _ _ _ _ _ (S.hpush b) _ (x + 1) _ (by omega) (HM6.out.to HSP.out.symm) (HMD.out) _ _ _ _ _ _ _ _ _ _ _ _ _ _ _ _ _ _ _ _ _ _ _ _ _ _ _ _ _ _ _ _ _ _ _ _ _ _ _ _ _ _ _ _ _ _ _ _ _ _ _ _ _ _ _ _ _ _ _ _ _ _ _ _ _ _ _ _ _ _ _ _ _ _ _ _ _ _ _ _ _ _ _ _ _ _ _ _ _ _ _ _ _ _ _ _ _ _ _ _ _ _ _ _ _ _ _ _ _ _ _ _ _ _ _ _ _ _ _ _ _ _ _ _ _ _ _ _ _ _ _ _ _ _ _ _ _ _ _ _ _ _ _ _ _ _ _ _ _ _ _ _ _ _ _ _ _ _ _ _ _ _ _ _ _ _ _ _ _ _ _ _ _ _ _ _ _ _ _ _ _ _ _ _ _ _ _ _ _ _ _ _ _ _ _ _ _ _ _ _ _ _ _ _ _ _ _ _ _ _

end Go.Proofs.Ytidkapanpieflaa
namespace Go.Proofs.Ytidkapanpieflaa
open Go.RowKit
set_option linter.unusedVariables false
set_option linter.unusedSimpArgs false
set_option maxHeartbeats 8000000 in
set_option maxRecDepth 100000 in
theorem liv_k0 {e0 k at_ : Int} {ad : Option Addr} {n cap p q pa x i j cc : Nat} {an au ar ad6 at7 : Option Addr} {cn cu cr cd6 ct : Nat} {S : LS} {w wB : World} {c5 : Nat → Nat} {u4 u17 u18 u19 u20 u21 u22 u23 u24 u25 u26 u27 u28 u29 u30 u31 u32 u33 u34 u35 u36 u37 u38 u39 u40 u41 u42 u43 u44 u45 u46 u47 u48 u49 u50 u51 u52 u53 u54 u55 u56 u57 u58 u59 u60 u61 u62 u63 u64 u65 u66 u67 u68 u69 u70 u71 u72 u73 u74 u75 u76 u78 u79 u80 u81 u82 u83 u84 u85 u86 u87 u88 u89 u90 u91 u92 u93 u94 u95 u96 u97 u98 u99 u100 u101 u102 u103 u104 u105 u106 u107 u108 u109 u110 u111 u112 u113 u114 u115 u116 u117 u118 u119 u120 u121 u122 u123 u124 u125 u126 u127 u128 u129 u130 u131 u132 u133 u134 u135 u136 u137 u138 u139 u140 u141 u142 u143 u144 u145 u146 u147 u148 u149 u150 u151 u152 u153 u154 u155 u156 u157 u158 u159 u160 u161 u162 u163 u164 u165 u166 u167 u168 u169 u170 u171 u172 u173 u174 u175 u176 u177 u178 u179 u180 u181 u182 u183 u184 u185 u186 u187 u188 u189 u190 u191 u192 u193 u194 u195 u196 u197 u198 u199 u200 u201 u202 u203 u204 u205 u206 u207 u208 u209 u210 u211 u212 u213 u214 u215 u216 u217 u218 u219 u220 u221 u222 u223 u224 u225 u226 u227 u228 u229 u230 u231 u232 u233 u234 u235 u236 u237 : Value}
    (HA5 : Hid (LivA w wB p q pa (.slice an S.net.length cn) (.slice au S.up.length cu) (.slice ar S.heard.length cr) (.slice ad6 S.down.length cd6) (.slice at7 S.told.length ct) c5 S k at_)) (HI2 : Hid (InvL e0 S cc i)) (hlt2 : i < 120) (hx : x ≤ i) (hj : 0 < S.net.length → j < S.net.length) (hk0 : k = 0)
    {Q : Exit → Act → World → Prop} (HP : ∀ d v c a w, Q (.panic c) (Act.put a d v) w → Q (.panic c) a w)
    (HQ : Hid (∀ nv uv hv dv tv S1 c6 (x1 : Nat) wx, x1 ≤ i + 1 → LivM w wx p q nv uv hv dv tv c6 S1 → MidR e0 S.E.epoch S1 i → ∀ u17 u18 u19 u20 u21 u22 u23 u24 u35 u36 u37 u38 u39 u40 u41 u42 u43 u44 u45 u46 u47 u48 u49 u50 u51 u52 u53 u54 u55 u56 u57 u58 u59 u60 u61 u62 u63 u64 u65 u66 u67 u68 u69 u70 u71 u72 u73 u74 u75 u76 u77 u78 u79 u80 u81 u82 u83 u84 u85 u86 u87 u88 u89 u90 u91 u92 u93 u94 u95 u96 u97 u98 u99 u100 u101 u102 u103 u104 u105 u106 u107 u108 u109 u110 u111 u112 u113 u114 u115 u116 u117 u118 u119 u120 u121 u122 u123 u124 u125 u126 u127 u128 u129 u130 u131 u132 u133 u134 u135 u136 u137 u138 u139 u140 u141 u142 u143 u144 u145 u146 u147 u148 u149 u150 u151 u152 u153 u154 u155 u156 u157 u158 u159 u160 u161 u162 u163 u164 u165 u166 u167 u168 u169 u170 u171 u172 u173 u174 u175 u176 u177 u178 u179 u180 u181 u182 u183 u184 u185 u186 u187 u188 u189 u190 u191 u192 u193 u194 u195 u196 u197 u198 u199 u200 u201 u202 u203 u204 u205 u206 u207 u208 u209 u210 u211 u212 u213 u214 u215 u216 u217 u218 u219 u220 u221 u222 u223 u224 u225 u226 u227 u228 u229 u230 u231 u232 u233 u234 u235 u236, Q .normal ⟨List.toArray ((.int .u32 e0) :: (.slice ad n cap) :: (undef) :: (undef) :: (u4) :: (.pointer (some ⟨p, 0, none⟩)) :: (.pointer (some ⟨q, 0, none⟩)) :: (nv) :: (uv) :: (hv) :: (dv) :: (tv) :: (.int .i64 (x1 : Int)) :: (.int .i64 (i : Int)) :: (.pointer (some ⟨pa, 0, none⟩)) :: (.int .i64 (j : Int)) :: (.int .u32 S.E.epoch) :: u17 :: u18 :: u19 :: u20 :: u21 :: u22 :: u23 :: u24 :: (u25) :: (u26) :: (u27) :: (u28) :: (u29) :: (u30) :: (u31) :: (u32) :: (u33) :: (u34) :: u35 :: u36 :: u37 :: u38 :: u39 :: u40 :: u41 :: u42 :: u43 :: u44 :: u45 :: u46 :: u47 :: u48 :: u49 :: u50 :: u51 :: u52 :: u53 :: u54 :: u55 :: u56 :: u57 :: u58 :: u59 :: u60 :: u61 :: u62 :: u63 :: u64 :: u65 :: u66 :: u67 :: u68 :: u69 :: u70 :: u71 :: u72 :: u73 :: u74 :: u75 :: u76 :: u77 :: u78 :: u79 :: u80 :: u81 :: u82 :: u83 :: u84 :: u85 :: u86 :: u87 :: u88 :: u89 :: u90 :: u91 :: u92 :: u93 :: u94 :: u95 :: u96 :: u97 :: u98 :: u99 :: u100 :: u101 :: u102 :: u103 :: u104 :: u105 :: u106 :: u107 :: u108 :: u109 :: u110 :: u111 :: u112 :: u113 :: u114 :: u115 :: u116 :: u117 :: u118 :: u119 :: u120 :: u121 :: u122 :: u123 :: u124 :: u125 :: u126 :: u127 :: u128 :: u129 :: u130 :: u131 :: u132 :: u133 :: u134 :: u135 :: u136 :: u137 :: u138 :: u139 :: u140 :: u141 :: u142 :: u143 :: u144 :: u145 :: u146 :: u147 :: u148 :: u149 :: u150 :: u151 :: u152 :: u153 :: u154 :: u155 :: u156 :: u157 :: u158 :: u159 :: u160 :: u161 :: u162 :: u163 :: u164 :: u165 :: u166 :: u167 :: u168 :: u169 :: u170 :: u171 :: u172 :: u173 :: u174 :: u175 :: u176 :: u177 :: u178 :: u179 :: u180 :: u181 :: u182 :: u183 :: u184 :: u185 :: u186 :: u187 :: u188 :: u189 :: u190 :: u191 :: u192 :: u193 :: u194 :: u195 :: u196 :: u197 :: u198 :: u199 :: u200 :: u201 :: u202 :: u203 :: u204 :: u205 :: u206 :: u207 :: u208 :: u209 :: u210 :: u211 :: u212 :: u213 :: u214 :: u215 :: u216 :: u217 :: u218 :: u219 :: u220 :: u221 :: u222 :: u223 :: u224 :: u225 :: u226 :: u227 :: u228 :: u229 :: u230 :: u231 :: u232 :: u233 :: u234 :: u235 :: u236 :: (u237) :: []), []⟩ wx)) :
    Code.wp Try.prog (pickC [1, 1, 1, 0, 1, 0, 0, 1, 0, 0, 1, 1, 1, 1, 0, 1] (Try.f10.body.getD .skip)) Q ⟨List.toArray ((.int .u32 e0) :: (.slice ad n cap) :: (undef) :: (undef) :: u4 :: (.pointer (some ⟨p, 0, none⟩)) :: (.pointer (some ⟨q, 0, none⟩)) :: (.slice an S.net.length cn) :: (.slice au S.up.length cu) :: (.slice ar S.heard.length cr) :: (.slice ad6 S.down.length cd6) :: (.slice at7 S.told.length ct) :: (.int .i64 (x : Int)) :: (.int .i64 (i : Int)) :: (.pointer (some ⟨pa, 0, none⟩)) :: (.int .i64 (j : Int)) :: (.int .u32 S.E.epoch) :: u17 :: u18 :: u19 :: u20 :: u21 :: u22 :: u23 :: u24 :: u25 :: u26 :: u27 :: u28 :: u29 :: u30 :: u31 :: u32 :: u33 :: u34 :: u35 :: u36 :: u37 :: u38 :: u39 :: u40 :: u41 :: u42 :: u43 :: u44 :: u45 :: u46 :: u47 :: u48 :: u49 :: u50 :: u51 :: u52 :: u53 :: u54 :: u55 :: u56 :: u57 :: u58 :: u59 :: u60 :: u61 :: u62 :: u63 :: u64 :: u65 :: u66 :: u67 :: u68 :: u69 :: u70 :: u71 :: u72 :: u73 :: u74 :: u75 :: u76 :: (.int .i64 k) :: u78 :: u79 :: u80 :: u81 :: u82 :: u83 :: u84 :: u85 :: u86 :: u87 :: u88 :: u89 :: u90 :: u91 :: u92 :: u93 :: u94 :: u95 :: u96 :: u97 :: u98 :: u99 :: u100 :: u101 :: u102 :: u103 :: u104 :: u105 :: u106 :: u107 :: u108 :: u109 :: u110 :: u111 :: u112 :: u113 :: u114 :: u115 :: u116 :: u117 :: u118 :: u119 :: u120 :: u121 :: u122 :: u123 :: u124 :: u125 :: u126 :: u127 :: u128 :: u129 :: u130 :: u131 :: u132 :: u133 :: u134 :: u135 :: u136 :: u137 :: u138 :: u139 :: u140 :: u141 :: u142 :: u143 :: u144 :: u145 :: u146 :: u147 :: u148 :: u149 :: u150 :: u151 :: u152 :: u153 :: u154 :: u155 :: u156 :: u157 :: u158 :: u159 :: u160 :: u161 :: u162 :: u163 :: u164 :: u165 :: u166 :: u167 :: u168 :: u169 :: u170 :: u171 :: u172 :: u173 :: u174 :: u175 :: u176 :: u177 :: u178 :: u179 :: u180 :: u181 :: u182 :: u183 :: u184 :: u185 :: u186 :: u187 :: u188 :: u189 :: u190 :: u191 :: u192 :: u193 :: u194 :: u195 :: u196 :: u197 :: u198 :: u199 :: u200 :: u201 :: u202 :: u203 :: u204 :: u205 :: u206 :: u207 :: u208 :: u209 :: u210 :: u211 :: u212 :: u213 :: u214 :: u215 :: u216 :: u217 :: u218 :: u219 :: u220 :: u221 :: u222 :: u223 :: u224 :: u225 :: u226 :: u227 :: u228 :: u229 :: u230 :: u231 :: u232 :: u233 :: u234 :: u235 :: u236 :: u237 :: []), []⟩ wB := by
  obtain ⟨_, _, e1, hnn, hcn, _⟩ := HA5.out.m.n.form
  obtain ⟨_, _, e2, hnu, hcu, _⟩ := HA5.out.m.u.form
  obtain ⟨_, _, e3, hnr, hcr, _⟩ := HA5.out.m.r.form
  obtain ⟨_, _, e4, hnd, hcd, _⟩ := HA5.out.m.d.form
  obtain ⟨_, _, e5, hnt, hct, _⟩ := HA5.out.m.t.form
  cases e1; cases e2; cases e3; cases e4; cases e5
  unfold maxLen at hcn hcu hcr hcd hct
  have hl3 := HI2.out.nn
  have hl4 := HI2.out.nu
  have hl5 := HI2.out.nr
  have hl6 := HI2.out.nd
  have hl7 := HI2.out.nt
  conv => arg 2; whnf
  subst hk0
  have hxw : IntKind.i64.wrap ((x : Int) + 1) = ((x + 1 : Nat) : Int) := by rw [IntWalk.i64_in _ (by omega)]; rfl
  have hrt := rune_txt
  go_wp2_with fail
  clear hrt
  generalize Utf8.encode _ = b
  refine (EPush_any p _ S.E b _ HA5.out.m.e).mono ?_; rintro e w6 ⟨rfl, he, hm⟩
  have HM6 := Lib.hid (HA5.out.m.eM he hm)
  have HMD := Lib.hid (HI2.out.push (by omega) b)
  clear he hm
  cases hf : S.E.out.full with
  | true =>
    have HSP : Hid (S.push b = { { S with E := { S.E with out := S.E.out.push b } } with up := S.up ++ [b] }) := Lib.hid (by unfold LS.push; rw [if_pos hf])
    clear hf
    go_wp2_with (at_builtin; go_loud (refine wpList_append_one Try.elStr rfl (.tmp 95) (.tmp 97) rfl #[.string b] _ _ _ _ (HM6.out.u.alloc _) _ (allocNew w6 _) rfl rfl rfl (by simp [Value.oneCell']) (by dsimp only; omega) (by unfold maxLen; dsimp only; omega) ?_); intro v7 w7 hR hm7; have HM7 := Lib.hid (HM6.out.uM (l' := S.up ++ [b]) (hR.mono fun k hk => hk.imp id fun h => by first | omega | exact allocLe h | (simp at h; omega)) ((Mod.allocThen hm7).row HM6.out.u) (by simp) (by simp)); clear hR hm7)
    refine HQ.out _ _ _ _ _ (S.push b) _ (x + 1) _ (by omega) (HM7.out.to HSP.out.symm) (HMD.out) _ _ _ _ _ _ _ _ _ _ _ _ _ _ _ _ _ _ _ _ _ _ _ _ _ _ _ _ _ _ _ _ _ _ _ _ _ _ _ _ _ _ _ _ _ _ _ _ _ _ _ _ _ _ _ _ _ _ _ _ _ _ _ _ _ _ _ _ _ _ _ _ _ _ _ _ _ _ _ _ _ _ _ _ _ _ _ _ _ _ _ _ _ _ _ _ _ _ _ _ _ _ _ _ _ _ _ _ _ _ _ _ _ _ _ _ _ _ _ _ _ _ _ _ _ _ _ _ _ _ _ _ _ _ _ _ _ _ _ _ _ _ _ _ _ _ _ _ _ _ _ _ _ _ _ _ _ _ _ _ _ _ _ _ _ _ _ _ _ _ _ _ _ _ _ _ _ _ _ _ _ _ _ _ _ _ _ _ _ _ _ _ _ _ _ _ _ _ _ _ _ _ _ _ _ _ _ _ _ _
  | false =>
    have HSP : Hid (S.push b = { S with E := { S.E with out := S.E.out.push b } }) := Lib.hid (by unfold LS.push; rw [if_neg (by rw [hf]; decide)])
    clear hf
    go_wp2_with fail
    refine HQ.out _ _ _ _ _ (S.push b) _ (x + 1) _ (by omega) (HM6.out.to HSP.out.symm) (HMD.out) _ _ _ _ _ _ _ _ _ _ _ _ _ _ _ _ _ _ _ _ _ _ _ _ _ _ _ _ _ _ _ _ _ _ _ _ _ _ _ _ _ _ _ _ _ _ _ _ _ _ _ _ _ _ _ _ _ _ _ _ _ _ _ _ _ _ _ _ _ _ _ _ _ _ _ _ _ _ _ _ _ _ _ _ _ _ _ _ _ _ _ _ _ _ _ _ _ _ _ _ _ _ _ _ _ _ _ _ _ _ _ _ _ _ _ _ _ _ _ _ _ _ _ _ _ _ _ _ _ _ _ _ _ _ _ _ _ _ _ _ _ _ _ _ _ _ _ _ _ _ _ _ _ _ _ _ _ _ _ _ _ _ _ _ _ _ _ _ _ _ _ _ _ _ _ _ _ _ _ _ _ _ _ _ _ _ _ _ _ _ _ _ _ _ _ _ _ _ _ _ _ _ _ _ _ _ _ _ _ _

end Go.Proofs.Ytidkapanpieflaa
namespace Go.Proofs.Ytidkapanpieflaa
open Go.RowKit
set_option linter.unusedVariables false
set_option linter.unusedSimpArgs false
set_option maxHeartbeats 8000000 in
set_option maxRecDepth 100000 in
theorem liv_kd {e0 k at_ : Int} {ad : Option Addr} {n cap p q pa x i j cc : Nat} {an au ar ad6 at7 : Option Addr} {cn cu cr cd6 ct : Nat} {S : LS} {w wB : World} {c5 : Nat → Nat} {u4 u17 u18 u19 u20 u21 u22 u23 u24 u25 u26 u27 u28 u29 u30 u31 u32 u33 u34 u35 u36 u37 u38 u39 u40 u41 u42 u43 u44 u45 u46 u47 u48 u49 u50 u51 u52 u53 u54 u55 u56 u57 u58 u59 u60 u61 u62 u63 u64 u65 u66 u67 u68 u69 u70 u71 u72 u73 u74 u75 u76 u78 u79 u80 u81 u82 u83 u84 u85 u86 u87 u88 u89 u90 u91 u92 u93 u94 u95 u96 u97 u98 u99 u100 u101 u102 u103 u104 u105 u106 u107 u108 u109 u110 u111 u112 u113 u114 u115 u116 u117 u118 u119 u120 u121 u122 u123 u124 u125 u126 u127 u128 u129 u130 u131 u132 u133 u134 u135 u136 u137 u138 u139 u140 u141 u142 u143 u144 u145 u146 u147 u148 u149 u150 u151 u152 u153 u154 u155 u156 u157 u158 u159 u160 u161 u162 u163 u164 u165 u166 u167 u168 u169 u170 u171 u172 u173 u174 u175 u176 u177 u178 u179 u180 u181 u182 u183 u184 u185 u186 u187 u188 u189 u190 u191 u192 u193 u194 u195 u196 u197 u198 u199 u200 u201 u202 u203 u204 u205 u206 u207 u208 u209 u210 u211 u212 u213 u214 u215 u216 u217 u218 u219 u220 u221 u222 u223 u224 u225 u226 u227 u228 u229 u230 u231 u232 u233 u234 u235 u236 u237 : Value}
    (HA5 : Hid (LivA w wB p q pa (.slice an S.net.length cn) (.slice au S.up.length cu) (.slice ar S.heard.length cr) (.slice ad6 S.down.length cd6) (.slice at7 S.told.length ct) c5 S k at_)) (HI2 : Hid (InvL e0 S cc i)) (hlt2 : i < 120) (hx : x ≤ i) (hj : 0 < S.net.length → j < S.net.length) (hk0 : ¬ k = 0) (hk1 : ¬ k = 1) (hk2 : ¬ k = 2) (hk3 : ¬ k = 3) (hk4 : ¬ k = 4) (hk5 : ¬ k = 5) (hk6 : ¬ k = 6) (hk7 : ¬ k = 7)
    {Q : Exit → Act → World → Prop} (HP : ∀ d v c a w, Q (.panic c) (Act.put a d v) w → Q (.panic c) a w)
    (HQ : Hid (∀ nv uv hv dv tv S1 c6 (x1 : Nat) wx, x1 ≤ i + 1 → LivM w wx p q nv uv hv dv tv c6 S1 → MidR e0 S.E.epoch S1 i → ∀ u17 u18 u19 u20 u21 u22 u23 u24 u35 u36 u37 u38 u39 u40 u41 u42 u43 u44 u45 u46 u47 u48 u49 u50 u51 u52 u53 u54 u55 u56 u57 u58 u59 u60 u61 u62 u63 u64 u65 u66 u67 u68 u69 u70 u71 u72 u73 u74 u75 u76 u77 u78 u79 u80 u81 u82 u83 u84 u85 u86 u87 u88 u89 u90 u91 u92 u93 u94 u95 u96 u97 u98 u99 u100 u101 u102 u103 u104 u105 u106 u107 u108 u109 u110 u111 u112 u113 u114 u115 u116 u117 u118 u119 u120 u121 u122 u123 u124 u125 u126 u127 u128 u129 u130 u131 u132 u133 u134 u135 u136 u137 u138 u139 u140 u141 u142 u143 u144 u145 u146 u147 u148 u149 u150 u151 u152 u153 u154 u155 u156 u157 u158 u159 u160 u161 u162 u163 u164 u165 u166 u167 u168 u169 u170 u171 u172 u173 u174 u175 u176 u177 u178 u179 u180 u181 u182 u183 u184 u185 u186 u187 u188 u189 u190 u191 u192 u193 u194 u195 u196 u197 u198 u199 u200 u201 u202 u203 u204 u205 u206 u207 u208 u209 u210 u211 u212 u213 u214 u215 u216 u217 u218 u219 u220 u221 u222 u223 u224 u225 u226 u227 u228 u229 u230 u231 u232 u233 u234 u235 u236, Q .normal ⟨List.toArray ((.int .u32 e0) :: (.slice ad n cap) :: (undef) :: (undef) :: (u4) :: (.pointer (some ⟨p, 0, none⟩)) :: (.pointer (some ⟨q, 0, none⟩)) :: (nv) :: (uv) :: (hv) :: (dv) :: (tv) :: (.int .i64 (x1 : Int)) :: (.int .i64 (i : Int)) :: (.pointer (some ⟨pa, 0, none⟩)) :: (.int .i64 (j : Int)) :: (.int .u32 S.E.epoch) :: u17 :: u18 :: u19 :: u20 :: u21 :: u22 :: u23 :: u24 :: (u25) :: (u26) :: (u27) :: (u28) :: (u29) :: (u30) :: (u31) :: (u32) :: (u33) :: (u34) :: u35 :: u36 :: u37 :: u38 :: u39 :: u40 :: u41 :: u42 :: u43 :: u44 :: u45 :: u46 :: u47 :: u48 :: u49 :: u50 :: u51 :: u52 :: u53 :: u54 :: u55 :: u56 :: u57 :: u58 :: u59 :: u60 :: u61 :: u62 :: u63 :: u64 :: u65 :: u66 :: u67 :: u68 :: u69 :: u70 :: u71 :: u72 :: u73 :: u74 :: u75 :: u76 :: u77 :: u78 :: u79 :: u80 :: u81 :: u82 :: u83 :: u84 :: u85 :: u86 :: u87 :: u88 :: u89 :: u90 :: u91 :: u92 :: u93 :: u94 :: u95 :: u96 :: u97 :: u98 :: u99 :: u100 :: u101 :: u102 :: u103 :: u104 :: u105 :: u106 :: u107 :: u108 :: u109 :: u110 :: u111 :: u112 :: u113 :: u114 :: u115 :: u116 :: u117 :: u118 :: u119 :: u120 :: u121 :: u122 :: u123 :: u124 :: u125 :: u126 :: u127 :: u128 :: u129 :: u130 :: u131 :: u132 :: u133 :: u134 :: u135 :: u136 :: u137 :: u138 :: u139 :: u140 :: u141 :: u142 :: u143 :: u144 :: u145 :: u146 :: u147 :: u148 :: u149 :: u150 :: u151 :: u152 :: u153 :: u154 :: u155 :: u156 :: u157 :: u158 :: u159 :: u160 :: u161 :: u162 :: u163 :: u164 :: u165 :: u166 :: u167 :: u168 :: u169 :: u170 :: u171 :: u172 :: u173 :: u174 :: u175 :: u176 :: u177 :: u178 :: u179 :: u180 :: u181 :: u182 :: u183 :: u184 :: u185 :: u186 :: u187 :: u188 :: u189 :: u190 :: u191 :: u192 :: u193 :: u194 :: u195 :: u196 :: u197 :: u198 :: u199 :: u200 :: u201 :: u202 :: u203 :: u204 :: u205 :: u206 :: u207 :: u208 :: u209 :: u210 :: u211 :: u212 :: u213 :: u214 :: u215 :: u216 :: u217 :: u218 :: u219 :: u220 :: u221 :: u222 :: u223 :: u224 :: u225 :: u226 :: u227 :: u228 :: u229 :: u230 :: u231 :: u232 :: u233 :: u234 :: u235 :: u236 :: (u237) :: []), []⟩ wx)) :
    Code.wp Try.prog (pickC [1, 1, 1, 0, 1, 0, 0, 1, 0, 0, 1, 1, 1, 1, 0, 1] (Try.f10.body.getD .skip)) Q ⟨List.toArray ((.int .u32 e0) :: (.slice ad n cap) :: (undef) :: (undef) :: u4 :: (.pointer (some ⟨p, 0, none⟩)) :: (.pointer (some ⟨q, 0, none⟩)) :: (.slice an S.net.length cn) :: (.slice au S.up.length cu) :: (.slice ar S.heard.length cr) :: (.slice ad6 S.down.length cd6) :: (.slice at7 S.told.length ct) :: (.int .i64 (x : Int)) :: (.int .i64 (i : Int)) :: (.pointer (some ⟨pa, 0, none⟩)) :: (.int .i64 (j : Int)) :: (.int .u32 S.E.epoch) :: u17 :: u18 :: u19 :: u20 :: u21 :: u22 :: u23 :: u24 :: u25 :: u26 :: u27 :: u28 :: u29 :: u30 :: u31 :: u32 :: u33 :: u34 :: u35 :: u36 :: u37 :: u38 :: u39 :: u40 :: u41 :: u42 :: u43 :: u44 :: u45 :: u46 :: u47 :: u48 :: u49 :: u50 :: u51 :: u52 :: u53 :: u54 :: u55 :: u56 :: u57 :: u58 :: u59 :: u60 :: u61 :: u62 :: u63 :: u64 :: u65 :: u66 :: u67 :: u68 :: u69 :: u70 :: u71 :: u72 :: u73 :: u74 :: u75 :: u76 :: (.int .i64 k) :: u78 :: u79 :: u80 :: u81 :: u82 :: u83 :: u84 :: u85 :: u86 :: u87 :: u88 :: u89 :: u90 :: u91 :: u92 :: u93 :: u94 :: u95 :: u96 :: u97 :: u98 :: u99 :: u100 :: u101 :: u102 :: u103 :: u104 :: u105 :: u106 :: u107 :: u108 :: u109 :: u110 :: u111 :: u112 :: u113 :: u114 :: u115 :: u116 :: u117 :: u118 :: u119 :: u120 :: u121 :: u122 :: u123 :: u124 :: u125 :: u126 :: u127 :: u128 :: u129 :: u130 :: u131 :: u132 :: u133 :: u134 :: u135 :: u136 :: u137 :: u138 :: u139 :: u140 :: u141 :: u142 :: u143 :: u144 :: u145 :: u146 :: u147 :: u148 :: u149 :: u150 :: u151 :: u152 :: u153 :: u154 :: u155 :: u156 :: u157 :: u158 :: u159 :: u160 :: u161 :: u162 :: u163 :: u164 :: u165 :: u166 :: u167 :: u168 :: u169 :: u170 :: u171 :: u172 :: u173 :: u174 :: u175 :: u176 :: u177 :: u178 :: u179 :: u180 :: u181 :: u182 :: u183 :: u184 :: u185 :: u186 :: u187 :: u188 :: u189 :: u190 :: u191 :: u192 :: u193 :: u194 :: u195 :: u196 :: u197 :: u198 :: u199 :: u200 :: u201 :: u202 :: u203 :: u204 :: u205 :: u206 :: u207 :: u208 :: u209 :: u210 :: u211 :: u212 :: u213 :: u214 :: u215 :: u216 :: u217 :: u218 :: u219 :: u220 :: u221 :: u222 :: u223 :: u224 :: u225 :: u226 :: u227 :: u228 :: u229 :: u230 :: u231 :: u232 :: u233 :: u234 :: u235 :: u236 :: u237 :: []), []⟩ wB := by
  obtain ⟨_, _, e1, hnn, hcn, _⟩ := HA5.out.m.n.form
  obtain ⟨_, _, e2, hnu, hcu, _⟩ := HA5.out.m.u.form
  obtain ⟨_, _, e3, hnr, hcr, _⟩ := HA5.out.m.r.form
  obtain ⟨_, _, e4, hnd, hcd, _⟩ := HA5.out.m.d.form
  obtain ⟨_, _, e5, hnt, hct, _⟩ := HA5.out.m.t.form
  cases e1; cases e2; cases e3; cases e4; cases e5
  unfold maxLen at hcn hcu hcr hcd hct
  have hl3 := HI2.out.nn
  have hl4 := HI2.out.nu
  have hl5 := HI2.out.nr
  have hl6 := HI2.out.nd
  have hl7 := HI2.out.nt
  conv => arg 2; whnf
  have hkb0 : (k == 0) = false := by simp [hk0]
  have hkb1 : (k == 1) = false := by simp [hk1]
  have hkb2 : (k == 2) = false := by simp [hk2]
  have hkb3 : (k == 3) = false := by simp [hk3]
  have hkb4 : (k == 4) = false := by simp [hk4]
  have hkb5 : (k == 5) = false := by simp [hk5]
  have hkb6 : (k == 6) = false := by simp [hk6]
  have hkb7 : (k == 7) = false := by simp [hk7]
  clear hk0 hk1 hk2 hk3 hk4 hk5 hk6 hk7
  go_wp2_with fail
  refine (HDrop_any HA5.out.m.h 1).mono ?_; rintro e w8 ⟨rfl, he, hm⟩
  have hM8 := HA5.out.m.hM (he.mono fun k hk _ => .inl hk) hm
  obtain ⟨c9, hM9, _⟩ := hM8.three
  have HM9 := Lib.hid hM9
  clear he hm hM8 hM9
  go_wp2_with fail
  refine HQ.out _ _ _ _ _ (S.drop) _ (x) _ (by omega) (HM9.out) (HI2.out.drop) _ _ _ _ _ _ _ _ _ _ _ _ _ _ _ _ _ _ _ _ _ _ _ _ _ _ _ _ _ _ _ _ _ _ _ _ _ _ _ _ _ _ _ _ _ _ _ _ _ _ _ _ _ _ _ _ _ _ _ _ _ _ _ _ _ _ _ _ _ _ _ _ _ _ _ _ _ _ _ _ _ _ _ _ _ _ _ _ _ _ _ _ _ _ _ _ _ _ _ _ _ _ _ _ _ _ _ _ _ _ _ _ _ _ _ _ _ _ _ _ _ _ _ _ _ _ _ _ _ _ _ _ _ _ _ _ _ _ _ _ _ _ _ _ _ _ _ _ _ _ _ _ _ _ _ _ _ _ _ _ _ _ _ _ _ _ _ _ _ _ _ _ _ _ _ _ _ _ _ _ _ _ _ _ _ _ _ _ _ _ _ _ _ _ _ _ _ _ _ _ _ _ _ _ _ _ _ _ _ _

end Go.Proofs.Ytidkapanpieflaa
namespace Go.Proofs.Ytidkapanpieflaa
open Go.RowKit
set_option linter.unusedVariables false
set_option linter.unusedSimpArgs false
set_option maxHeartbeats 8000000 in
set_option maxRecDepth 100000 in
theorem liv_k7 {e0 k at_ : Int} {ad : Option Addr} {n cap p q pa x i j cc : Nat} {an au ar ad6 at7 : Option Addr} {cn cu cr cd6 ct : Nat} {S : LS} {w wB : World} {c5 : Nat → Nat} {u4 u17 u18 u19 u20 u21 u22 u23 u24 u25 u26 u27 u28 u29 u30 u31 u32 u33 u34 u35 u36 u37 u38 u39 u40 u41 u42 u43 u44 u45 u46 u47 u48 u49 u50 u51 u52 u53 u54 u55 u56 u57 u58 u59 u60 u61 u62 u63 u64 u65 u66 u67 u68 u69 u70 u71 u72 u73 u74 u75 u76 u78 u79 u80 u81 u82 u83 u84 u85 u86 u87 u88 u89 u90 u91 u92 u93 u94 u95 u96 u97 u98 u99 u100 u101 u102 u103 u104 u105 u106 u107 u108 u109 u110 u111 u112 u113 u114 u115 u116 u117 u118 u119 u120 u121 u122 u123 u124 u125 u126 u127 u128 u129 u130 u131 u132 u133 u134 u135 u136 u137 u138 u139 u140 u141 u142 u143 u144 u145 u146 u147 u148 u149 u150 u151 u152 u153 u154 u155 u156 u157 u158 u159 u160 u161 u162 u163 u164 u165 u166 u167 u168 u169 u170 u171 u172 u173 u174 u175 u176 u177 u178 u179 u180 u181 u182 u183 u184 u185 u186 u187 u188 u189 u190 u191 u192 u193 u194 u195 u196 u197 u198 u199 u200 u201 u202 u203 u204 u205 u206 u207 u208 u209 u210 u211 u212 u213 u214 u215 u216 u217 u218 u219 u220 u221 u222 u223 u224 u225 u226 u227 u228 u229 u230 u231 u232 u233 u234 u235 u236 u237 : Value}
    (HA5 : Hid (LivA w wB p q pa (.slice an S.net.length cn) (.slice au S.up.length cu) (.slice ar S.heard.length cr) (.slice ad6 S.down.length cd6) (.slice at7 S.told.length ct) c5 S k at_)) (HI2 : Hid (InvL e0 S cc i)) (hlt2 : i < 120) (hx : x ≤ i) (hj : 0 < S.net.length → j < S.net.length) (hk7 : k = 7)
    {Q : Exit → Act → World → Prop} (HP : ∀ d v c a w, Q (.panic c) (Act.put a d v) w → Q (.panic c) a w)
    (HQ : Hid (∀ nv uv hv dv tv S1 c6 (x1 : Nat) wx, x1 ≤ i + 1 → LivM w wx p q nv uv hv dv tv c6 S1 → MidR e0 S.E.epoch S1 i → ∀ u17 u18 u19 u20 u21 u22 u23 u24 u35 u36 u37 u38 u39 u40 u41 u42 u43 u44 u45 u46 u47 u48 u49 u50 u51 u52 u53 u54 u55 u56 u57 u58 u59 u60 u61 u62 u63 u64 u65 u66 u67 u68 u69 u70 u71 u72 u73 u74 u75 u76 u77 u78 u79 u80 u81 u82 u83 u84 u85 u86 u87 u88 u89 u90 u91 u92 u93 u94 u95 u96 u97 u98 u99 u100 u101 u102 u103 u104 u105 u106 u107 u108 u109 u110 u111 u112 u113 u114 u115 u116 u117 u118 u119 u120 u121 u122 u123 u124 u125 u126 u127 u128 u129 u130 u131 u132 u133 u134 u135 u136 u137 u138 u139 u140 u141 u142 u143 u144 u145 u146 u147 u148 u149 u150 u151 u152 u153 u154 u155 u156 u157 u158 u159 u160 u161 u162 u163 u164 u165 u166 u167 u168 u169 u170 u171 u172 u173 u174 u175 u176 u177 u178 u179 u180 u181 u182 u183 u184 u185 u186 u187 u188 u189 u190 u191 u192 u193 u194 u195 u196 u197 u198 u199 u200 u201 u202 u203 u204 u205 u206 u207 u208 u209 u210 u211 u212 u213 u214 u215 u216 u217 u218 u219 u220 u221 u222 u223 u224 u225 u226 u227 u228 u229 u230 u231 u232 u233 u234 u235 u236, Q .normal ⟨List.toArray ((.int .u32 e0) :: (.slice ad n cap) :: (undef) :: (undef) :: (u4) :: (.pointer (some ⟨p, 0, none⟩)) :: (.pointer (some ⟨q, 0, none⟩)) :: (nv) :: (uv) :: (hv) :: (dv) :: (tv) :: (.int .i64 (x1 : Int)) :: (.int .i64 (i : Int)) :: (.pointer (some ⟨pa, 0, none⟩)) :: (.int .i64 (j : Int)) :: (.int .u32 S.E.epoch) :: u17 :: u18 :: u19 :: u20 :: u21 :: u22 :: u23 :: u24 :: (u25) :: (u26) :: (u27) :: (u28) :: (u29) :: (u30) :: (u31) :: (u32) :: (u33) :: (u34) :: u35 :: u36 :: u37 :: u38 :: u39 :: u40 :: u41 :: u42 :: u43 :: u44 :: u45 :: u46 :: u47 :: u48 :: u49 :: u50 :: u51 :: u52 :: u53 :: u54 :: u55 :: u56 :: u57 :: u58 :: u59 :: u60 :: u61 :: u62 :: u63 :: u64 :: u65 :: u66 :: u67 :: u68 :: u69 :: u70 :: u71 :: u72 :: u73 :: u74 :: u75 :: u76 :: u77 :: u78 :: u79 :: u80 :: u81 :: u82 :: u83 :: u84 :: u85 :: u86 :: u87 :: u88 :: u89 :: u90 :: u91 :: u92 :: u93 :: u94 :: u95 :: u96 :: u97 :: u98 :: u99 :: u100 :: u101 :: u102 :: u103 :: u104 :: u105 :: u106 :: u107 :: u108 :: u109 :: u110 :: u111 :: u112 :: u113 :: u114 :: u115 :: u116 :: u117 :: u118 :: u119 :: u120 :: u121 :: u122 :: u123 :: u124 :: u125 :: u126 :: u127 :: u128 :: u129 :: u130 :: u131 :: u132 :: u133 :: u134 :: u135 :: u136 :: u137 :: u138 :: u139 :: u140 :: u141 :: u142 :: u143 :: u144 :: u145 :: u146 :: u147 :: u148 :: u149 :: u150 :: u151 :: u152 :: u153 :: u154 :: u155 :: u156 :: u157 :: u158 :: u159 :: u160 :: u161 :: u162 :: u163 :: u164 :: u165 :: u166 :: u167 :: u168 :: u169 :: u170 :: u171 :: u172 :: u173 :: u174 :: u175 :: u176 :: u177 :: u178 :: u179 :: u180 :: u181 :: u182 :: u183 :: u184 :: u185 :: u186 :: u187 :: u188 :: u189 :: u190 :: u191 :: u192 :: u193 :: u194 :: u195 :: u196 :: u197 :: u198 :: u199 :: u200 :: u201 :: u202 :: u203 :: u204 :: u205 :: u206 :: u207 :: u208 :: u209 :: u210 :: u211 :: u212 :: u213 :: u214 :: u215 :: u216 :: u217 :: u218 :: u219 :: u220 :: u221 :: u222 :: u223 :: u224 :: u225 :: u226 :: u227 :: u228 :: u229 :: u230 :: u231 :: u232 :: u233 :: u234 :: u235 :: u236 :: (u237) :: []), []⟩ wx)) :
    Code.wp Try.prog (pickC [1, 1, 1, 0, 1, 0, 0, 1, 0, 0, 1, 1, 1, 1, 0, 1] (Try.f10.body.getD .skip)) Q ⟨List.toArray ((.int .u32 e0) :: (.slice ad n cap) :: (undef) :: (undef) :: u4 :: (.pointer (some ⟨p, 0, none⟩)) :: (.pointer (some ⟨q, 0, none⟩)) :: (.slice an S.net.length cn) :: (.slice au S.up.length cu) :: (.slice ar S.heard.length cr) :: (.slice ad6 S.down.length cd6) :: (.slice at7 S.told.length ct) :: (.int .i64 (x : Int)) :: (.int .i64 (i : Int)) :: (.pointer (some ⟨pa, 0, none⟩)) :: (.int .i64 (j : Int)) :: (.int .u32 S.E.epoch) :: u17 :: u18 :: u19 :: u20 :: u21 :: u22 :: u23 :: u24 :: u25 :: u26 :: u27 :: u28 :: u29 :: u30 :: u31 :: u32 :: u33 :: u34 :: u35 :: u36 :: u37 :: u38 :: u39 :: u40 :: u41 :: u42 :: u43 :: u44 :: u45 :: u46 :: u47 :: u48 :: u49 :: u50 :: u51 :: u52 :: u53 :: u54 :: u55 :: u56 :: u57 :: u58 :: u59 :: u60 :: u61 :: u62 :: u63 :: u64 :: u65 :: u66 :: u67 :: u68 :: u69 :: u70 :: u71 :: u72 :: u73 :: u74 :: u75 :: u76 :: (.int .i64 k) :: u78 :: u79 :: u80 :: u81 :: u82 :: u83 :: u84 :: u85 :: u86 :: u87 :: u88 :: u89 :: u90 :: u91 :: u92 :: u93 :: u94 :: u95 :: u96 :: u97 :: u98 :: u99 :: u100 :: u101 :: u102 :: u103 :: u104 :: u105 :: u106 :: u107 :: u108 :: u109 :: u110 :: u111 :: u112 :: u113 :: u114 :: u115 :: u116 :: u117 :: u118 :: u119 :: u120 :: u121 :: u122 :: u123 :: u124 :: u125 :: u126 :: u127 :: u128 :: u129 :: u130 :: u131 :: u132 :: u133 :: u134 :: u135 :: u136 :: u137 :: u138 :: u139 :: u140 :: u141 :: u142 :: u143 :: u144 :: u145 :: u146 :: u147 :: u148 :: u149 :: u150 :: u151 :: u152 :: u153 :: u154 :: u155 :: u156 :: u157 :: u158 :: u159 :: u160 :: u161 :: u162 :: u163 :: u164 :: u165 :: u166 :: u167 :: u168 :: u169 :: u170 :: u171 :: u172 :: u173 :: u174 :: u175 :: u176 :: u177 :: u178 :: u179 :: u180 :: u181 :: u182 :: u183 :: u184 :: u185 :: u186 :: u187 :: u188 :: u189 :: u190 :: u191 :: u192 :: u193 :: u194 :: u195 :: u196 :: u197 :: u198 :: u199 :: u200 :: u201 :: u202 :: u203 :: u204 :: u205 :: u206 :: u207 :: u208 :: u209 :: u210 :: u211 :: u212 :: u213 :: u214 :: u215 :: u216 :: u217 :: u218 :: u219 :: u220 :: u221 :: u222 :: u223 :: u224 :: u225 :: u226 :: u227 :: u228 :: u229 :: u230 :: u231 :: u232 :: u233 :: u234 :: u235 :: u236 :: u237 :: []), []⟩ wB := by
  obtain ⟨_, _, e1, hnn, hcn, _⟩ := HA5.out.m.n.form
  obtain ⟨_, _, e2, hnu, hcu, _⟩ := HA5.out.m.u.form
  obtain ⟨_, _, e3, hnr, hcr, _⟩ := HA5.out.m.r.form
  obtain ⟨_, _, e4, hnd, hcd, _⟩ := HA5.out.m.d.form
  obtain ⟨_, _, e5, hnt, hct, _⟩ := HA5.out.m.t.form
  cases e1; cases e2; cases e3; cases e4; cases e5
  unfold maxLen at hcn hcu hcr hcd hct
  have hl3 := HI2.out.nn
  have hl4 := HI2.out.nu
  have hl5 := HI2.out.nr
  have hl6 := HI2.out.nd
  have hl7 := HI2.out.nt
  conv => arg 2; whnf
  subst hk7
  go_wp2_with fail
  refine (ECrash_any p _ S.E _ HA5.out.m.e).mono ?_; rintro e w7 ⟨⟨v7, rfl⟩, he, hm⟩
  have HM7 := Lib.hid (HA5.out.m.eM he hm)
  clear he hm
  go_wp2_with fail
  refine HQ.out _ _ _ _ _ (S.crash) _ (x) _ (by omega) (HM7.out) (HI2.out.crash (by omega)) _ _ _ _ _ _ _ _ _ _ _ _ _ _ _ _ _ _ _ _ _ _ _ _ _ _ _ _ _ _ _ _ _ _ _ _ _ _ _ _ _ _ _ _ _ _ _ _ _ _ _ _ _ _ _ _ _ _ _ _ _ _ _ _ _ _ _ _ _ _ _ _ _ _ _ _ _ _ _ _ _ _ _ _ _ _ _ _ _ _ _ _ _ _ _ _ _ _ _ _ _ _ _ _ _ _ _ _ _ _ _ _ _ _ _ _ _ _ _ _ _ _ _ _ _ _ _ _ _ _ _ _ _ _ _ _ _ _ _ _ _ _ _ _ _ _ _ _ _ _ _ _ _ _ _ _ _ _ _ _ _ _ _ _ _ _ _ _ _ _ _ _ _ _ _ _ _ _ _ _ _ _ _ _ _ _ _ _ _ _ _ _ _ _ _ _ _ _ _ _ _ _ _ _ _ _ _ _ _ _

end Go.Proofs.Ytidkapanpieflaa
namespace Go.Proofs.Ytidkapanpieflaa
open Go.RowKit
set_option linter.unusedVariables false
set_option linter.unusedSectionVars false
namespace R
variable [vl : Val]
section
variable {P : Program} {w : World} {r : Reach} {b : Nat} {t : TypeId} {v : Value}
theorem ok_one (h : Cell.okWide P w r b t v) : v.oneCell' = true := by
  unfold Cell.okWide at h
  split at h <;> first
    | rfl
    | (unfold Cell.ok at h; split at h <;> first | rfl | exact h.elim)
theorem ok_leaf {d : TypeDesc} (hd : P.underlying t = some d) (hn : (match d with | .struct _ | .array _ _ => false | _ => true) = true) (h : Value.okWide P w r b t v) : v.oneCell' = true := by
  unfold Value.okWide at h
  rw [hd] at h
  cases d <;> first | exact ok_one h | cases hn
theorem ok_agg {d : TypeDesc} (hd : P.underlying t = some d) (hn : (match d with | .struct _ | .array _ _ => true | _ => false) = true) (h : Value.okWide P w r b t v) :
    ∃ l : List Value, v = .agg l.toArray ∧ l.length = P.cellsOf t ∧ ∀ c ∈ l, c.oneCell' = true := by
  unfold Value.okWide at h
  rw [hd] at h
  have key : (∃ cs, v = .agg cs ∧ cs.size = P.cellsOf t ∧ Row.okWide P w r b t cs) → ∃ l : List Value, v = .agg l.toArray ∧ l.length = P.cellsOf t ∧ ∀ c ∈ l, c.oneCell' = true := by
    rintro ⟨⟨l⟩, rfl, h1, ts, _, _, h2⟩
    refine ⟨l, rfl, by simpa using h1, fun c hc => ?_⟩
    obtain ⟨i, hi⟩ := List.getElem?_of_mem hc
    obtain ⟨u, _, hu⟩ := h2 i c (by simpa using hi)
    exact ok_one hu
  cases d <;> first | exact key h | cases hn
end
end R
end Go.Proofs.Ytidkapanpieflaa
namespace Go.Proofs.Ytidkapanpieflaa
set_option maxRecDepth 100000
def extL : List (FuncId × R.XK) := []
theorem extAll : R.XAll Try.prog extL := trivial
set_option linter.unusedSectionVars false
variable [vl : R.Val]
theorem ext_ok : R.EOk Try.prog (R.EX extL) := R.EX_ok extAll
end Go.Proofs.Ytidkapanpieflaa
namespace Go.Proofs.Ytidkapanpieflaa
open Go.RowKit
set_option maxRecDepth 1000000 in
theorem lives29_any (w : World) : Calls Try.prog 52 #[] w fun e w' => e = .returned (.bool true) ∧ Mod (fun _ => False) w w' :=
  R.runs_eq (E := R.EX extL) (hE := ext_ok) (P := Try.prog) (n := 1000) (k := 100) (us := #[]) (xs := []) (y := .v (.c (.x (.bool true)))) (by kernel_rfl) (by kernel_rfl) (show R.LR _ _ _ from trivial) R.hu_true w
end Go.Proofs.Ytidkapanpieflaa
namespace Go.Proofs.Ytidkapanpieflaa
open Go.RowKit
set_option linter.unusedVariables false
set_option linter.unusedSimpArgs false
theorem stepSz : (Try.prog.info? 82).map (·.size) = some 2 := by kernel_rfl
theorem intSz : (Try.prog.info? 3).map (·.size) = some 1 := by kernel_rfl
set_option maxHeartbeats 40000000 in
set_option maxRecDepth 100000 in
theorem livs_walk (e0 : Int) (h0 : 0 ≤ e0) (h1 : e0 < 4294967296) (v : Value) (n : Nat) (hn43 : n ≤ 8796093022208) (l : Nat → Int × Int) (w : World) (hl : StepRow w v n l) :
    Calls Try.prog 10 #[.int .u32 e0, v] w fun e w' => e = .returned (.bool true) ∧ Mod (fun _ => False) w w' := by
  obtain ⟨ad, cap, rfl, hn, hc, hg⟩ := hl
  unfold maxLen at hc
  have HG := Lib.hid hg
  have hw60 : IntKind.i64.wrap ((n : Int) + 60) = (n : Int) + 60 := IntWalk.i64_in _ (by omega)
  clear hg
  go_enter Try.func10, Try.ntmps10
  go_wp2_with fail
  refine (NewEnd_any 1 e0 _ h0 h1).mono ?_; rintro e w1 ⟨p, rfl, he, hm⟩
  obtain ⟨c1, hC, he⟩ : ∃ c, Col w w1 c ∧ EndAt w1 p (fun k => c k = 1) (Life.fresh 1 true e0) := ⟨_, (Col.start w).still hm 1, he.mono (paint_born (fun _ => 0) w w1 1)⟩
  have HC := Lib.hid hC
  have HE := Lib.hid he
  clear hC he hm
  go_wp2_with fail
  refine (NewHub_any _).mono ?_; rintro e w2 ⟨q, rfl, hx, hm⟩
  obtain ⟨c3, hM⟩ := LivM.begin (HC.out.still hm 2) ((HE.out.keep hm fun _ _ f => f).mono (paint_away HC.out (by decide) 2)) (hx.mono (paint_born c1 w1 w2 2))
  have HF := Lib.hid hM
  have HI : Hid (InvL e0 ⟨Life.fresh 1 true e0, [], fun _ => none, [], [], [], [], []⟩ 0 0) := Lib.hid ⟨PhL.start e0 h0 h1, Nat.le_refl _, Nat.zero_le _, Nat.le_refl _, Nat.le_refl _, Nat.le_refl _, Nat.le_refl _⟩
  clear HC HE hx hm hM
  go_wp2_with fail
  go_loopw [7, 8, 9, 10, 11, 12, 13] (fun nv uv hv dv tv xv iv wr => ∃ (i : Nat) (c : Nat → Nat) (S : LS) (cc x : Nat), i ≤ 120 ∧ x ≤ i ∧ iv = .int .i64 (i : Int) ∧ xv = .int .i64 (x : Int) ∧ LivM w wr p q nv uv hv dv tv c S ∧ InvL e0 S cc i) (fun _ _ _ _ _ _ iv _ => 120 - (intOf iv).toNat)
  case atStart => exact ⟨0, _, _, 0, 0, Nat.zero_le _, Nat.le_refl _, rfl, rfl, HF.out, HI.out⟩
  case round =>
    as_aux_lemma =>
      obtain ⟨i, c, S, cc, x, hi, hx, rfl, rfl, hM, hI⟩ := hrel
      obtain ⟨an, cn, rfl, hnn, hcn, _⟩ := hM.n.form
      obtain ⟨au, cu, rfl, hnu, hcu, _⟩ := hM.u.form
      obtain ⟨ar, cr, rfl, hnr, hcr, _⟩ := hM.r.form
      obtain ⟨ad6, cd6, rfl, hnd, hcd, _⟩ := hM.d.form
      obtain ⟨at7, ct, rfl, hnt, hct, _⟩ := hM.t.form
      unfold maxLen at hcn hcu hcr hcd hct
      have hl3 := hI.nn
      have hl4 := hI.nu
      have hl5 := hI.nr
      have hl6 := hI.nd
      have hl7 := hI.nt
      have HM := Lib.hid hM
      have HI2 := Lib.hid hI
      clear hM hI HF HI
      by_cases hlt : i < n + 60
      · by_cases hlt2 : i < 120
        · have hi1 : (i : Int) < (n : Int) + 60 := by omega
          have hi2 : (i : Int) < 120 := by omega
          go_upto_region 7 with fail
          obtain ⟨wA, hwA⟩ : ∃ wA, wA = wr.alloc (.cells #[.int .i64 3, .int .i64 0] 82) := ⟨_, rfl⟩
          obtain ⟨pa, hpa⟩ : ∃ pa, pa = wr.heap.size := ⟨_, rfl⟩
          have hA : ∃ cA, LivA w wA p q pa (.slice an S.net.length cn) (.slice au S.up.length cu) (.slice ar S.heard.length cr) (.slice ad6 S.down.length cd6) (.slice at7 S.told.length ct) cA S 3 0 := ⟨_, ⟨HM.out.still (hwA ▸ (Mod.refl _ _).alloc _) 9, by rw [hwA, hpa]; exact Blk.new wr _ _, by rw [hpa]; exact paint_born _ wr wA 9 _ (Nat.le_refl _) (by rw [hwA]; simp)⟩⟩
          try rw [← hwA]
          try rw [← hpa]
          obtain ⟨cA, hA⟩ := hA
          have HA := Lib.hid hA
          clear hA hwA hpa
          go_cut [54] from 35 to 236 (fun b wx => ∃ bb : Bool, b = .bool bb ∧ (bb = true ↔ (i < n ∧ i < 50)) ∧ wx = wA)
          case first =>
            as_aux_lemma =>
              by_cases hin : i < n
              · have hin1 : (i : Int) < (n : Int) := by omega
                by_cases hi3 : i < 50
                · have hi31 : (i : Int) < 50 := by omega
                  go_wp2_with fail
                  go_meet
                  exact ⟨true, rfl, ⟨fun _ => ⟨hin, hi3⟩, fun _ => rfl⟩, rfl⟩
                · have hi31 : ¬ (i : Int) < 50 := by omega
                  go_wp2_with fail
                  go_meet
                  exact ⟨false, rfl, ⟨fun h => Bool.noConfusion h, fun h => absurd h.2 hi3⟩, rfl⟩
              · have hin1 : ¬ (i : Int) < (n : Int) := by omega
                go_wp2_with fail
                go_meet
                exact ⟨false, rfl, ⟨fun h => Bool.noConfusion h, fun h => absurd h.1 hin⟩, rfl⟩
          case rest =>
            as_aux_lemma =>
              obtain ⟨bb, rfl, hbb, hwc⟩ := hcut
              rw [hwc]
              have HBB := Lib.hid hbb
              clear hbb hwc
              go_upto_if 54 with fail
              go_cut [] from 35 to 236 (fun wx => ∃ (k at_ : Int) (c5 : Nat → Nat), LivA w wx p q pa (.slice an S.net.length cn) (.slice au S.up.length cu) (.slice ar S.heard.length cr) (.slice ad6 S.down.length cd6) (.slice at7 S.told.length ct) c5 S k at_)
              case first =>
                as_aux_lemma =>
                  cases bb with
                  | false =>
                    by_cases hz0 : 0 < S.net.length
                    · have hz1 : (0 : Int) < (S.net.length : Int) := by omega
                      go_wp2_with (refine wpList_store_blk1 rfl _ _ _ rfl pa 0 82 [.int .i64 3, .int .i64 0] (.int .i64 4) rfl rfl HA.out.box (by simp) intSz (by simp [Value.oneCell']) ?_; intro w5 HB5 HM5)
                      go_meet
                      exact ⟨4, 0, _, HA.out.m.box (j := 9) rfl (HM5.out.mono fun k hk => .inl (by rw [hk]; exact HA.out.col)) 9, HB5.out, paint_away HA.out.m.col (by decide) 9 pa HA.out.col HB5.out.lt⟩
                    · have hz1 : ¬ (0 : Int) < (S.net.length : Int) := by omega
                      go_wp2_with fail
                      go_meet
                      exact ⟨3, 0, cA, HA.out⟩
                  | true =>
                    obtain ⟨hin, hi3⟩ := HBB.out.1 rfl
                    obtain ⟨g, o, rfl, hgl, hcg⟩ := HG.out (by omega)
                    obtain ⟨z, hz⟩ : ∃ z, z = l i := ⟨_, rfl⟩
                    obtain ⟨x0, x1⟩ := hcg i hin
                    rw [← hz] at x0 x1
                    replace x0 := HA.out.m.col.mod.cell (fun f => f) x0
                    replace x1 := HA.out.m.col.mod.cell (fun f => f) x1
                    have hin1 : (i : Int) < (n : Int) := by omega
                    clear hcg hz
                    go_wp2_with (refine wpList_store_blk rfl _ _ _ rfl pa 0 82 [.int .i64 3, .int .i64 0] [.int .i64 z.1, .int .i64 z.2] rfl rfl HA.out.box (by simp) stepSz (by simp [Value.oneCell']) ?_; intro w5 HB5 HM5)
                    go_meet
                    exact ⟨z.1, z.2, _, HA.out.m.box (j := 9) rfl (HM5.out.mono fun k hk => .inl (by rw [hk]; exact HA.out.col)) 9, HB5.out, paint_away HA.out.m.col (by decide) 9 pa HA.out.col HB5.out.lt⟩
              case rest =>
                as_aux_lemma =>
                  obtain ⟨k, at_, c5, hA5⟩ := hcut
                  have HA5 := Lib.hid hA5
                  obtain ⟨wB, hwB⟩ : ∃ wB, wB = wc := ⟨_, rfl⟩
                  rw [← hwB] at HA5 ⊢
                  clear hA5 hwB HA HBB HM
                  go_wp2_with fail
                  refine (EEpoch_any p _ S.E _ HA5.out.m.e).mono ?_; rintro e w' ⟨rfl, rfl⟩
                  go_upto_region 12 with fail
                  go_cut [67] from 35 to 236 (fun b wx => b = .bool (decide (0 < S.net.length)) ∧ wx = wB)
                  case first =>
                    as_aux_lemma =>
                      by_cases hz0 : 0 < S.net.length
                      · have hz1 : (0 : Int) < (S.net.length : Int) := by omega
                        have HD : Hid (decide (0 < S.net.length) = true) := Lib.hid (decide_eq_true hz0)
                        go_wp2_with fail
                        go_meet
                        exact ⟨by rw [HD.out], rfl⟩
                      · have hz1 : ¬ (0 : Int) < (S.net.length : Int) := by omega
                        have HD : Hid (decide (0 < S.net.length) = false) := Lib.hid (decide_eq_false hz0)
                        go_wp2_with fail
                        go_meet
                        exact ⟨by rw [HD.out], rfl⟩
                  case rest =>
                    as_aux_lemma =>
                      obtain ⟨rfl, hwc⟩ := hcut
                      rw [hwc]
                      clear hwc
                      go_upto_if 67 with fail
                      go_cut [15] from 35 to 236 (fun a wx => ∃ j : Nat, a = .int .i64 (j : Int) ∧ (0 < S.net.length → j < S.net.length) ∧ wx = wB)
                      case first =>
                        as_aux_lemma =>
                          have kb1 := HA5.out.box.cell (j := 1) rfl
                          by_cases hz0 : 0 < S.net.length
                          · rw [decide_eq_true hz0]
                            have hz1 : (0 : Int) < (S.net.length : Int) := by omega
                            have haz : ¬ (S.net.length : Int) = 0 := by omega
                            obtain ⟨nu, e1, hnu0, hnu1⟩ : ∃ nu : Int, IntKind.u64.wrap at_ = nu ∧ 0 ≤ nu ∧ nu < 18446744073709551616 := ⟨_, rfl, by rw [IntKind.wrap_u64]; omega, by rw [IntKind.wrap_u64]; omega⟩
                            have f2 : IntKind.u64.wrap (S.net.length : Int) = S.net.length := IntWalk.u64_in _ (by omega)
                            obtain ⟨ka, hka, f3⟩ : ∃ ka : Nat, ka < S.net.length ∧ nu.tmod (S.net.length : Int) = ka := by
                              have b0 := Int.tmod_nonneg (S.net.length : Int) hnu0
                              have b1 := Int.tmod_lt_of_pos nu hz1
                              exact ⟨(nu.tmod (S.net.length : Int)).toNat, by omega, by omega⟩
                            have f4 : IntKind.u64.wrap (ka : Int) = ka := IntWalk.u64_in _ (by omega)
                            have f5 : IntKind.i64.wrap (ka : Int) = ka := IntWalk.i64_in _ (by omega)
                            go_wp2_with fail
                            go_meet
                            exact ⟨ka, rfl, fun _ => hka, rfl⟩
                          · rw [decide_eq_false hz0]
                            go_wp2_with fail
                            go_meet
                            exact ⟨0, rfl, fun h => absurd h hz0, rfl⟩
                      case rest =>
                        as_aux_lemma =>
                          obtain ⟨j, rfl, hj, hwc⟩ := hcut
                          rw [hwc]
                          clear hwc
                          have kb0 := HA5.out.box.cell (j := 0) rfl
                          go_upto_block 2 with fail
                          clear kb0
                          go_cut [7, 8, 9, 10, 11, 12] from 35 to 236 (fun nv uv hv dv tv xv wx => ∃ (S1 : LS) (c6 : Nat → Nat) (x1 : Nat), x1 ≤ i + 1 ∧ xv = .int .i64 (x1 : Int) ∧ LivM w wx p q nv uv hv dv tv c6 S1 ∧ MidR e0 S.E.epoch S1 i)
                          case first =>
                            as_aux_lemma =>
                              have HPX : Hid True := Lib.hid trivial
                              rcases (show k = 0 ∨ k = 1 ∨ k = 2 ∨ k = 3 ∨ k = 4 ∨ k = 5 ∨ k = 6 ∨ k = 7 ∨ (¬ k = 0 ∧ ¬ k = 1 ∧ ¬ k = 2 ∧ ¬ k = 3 ∧ ¬ k = 4 ∧ ¬ k = 5 ∧ ¬ k = 6 ∧ ¬ k = 7) by omega) with hk0 | hk1 | hk2 | hk3 | hk4 | hk5 | hk6 | hk7 | ⟨hk0, hk1, hk2, hk3, hk4, hk5, hk6, hk7⟩
                              · as_aux_lemma =>
                                  refine liv_k0 HA5 HI2 hlt2 hx hj hk0 (fun d v c a w h => by cases d <;> exact h) (Lib.hid ?_)
                                  intro nv uv hv dv tv S1 c6 x1 wx g1 g2 g3 _ _ _ _ _ _ _ _ _ _ _ _ _ _ _ _ _ _ _ _ _ _ _ _ _ _ _ _ _ _ _ _ _ _ _ _ _ _ _ _ _ _ _ _ _ _ _ _ _ _ _ _ _ _ _ _ _ _ _ _ _ _ _ _ _ _ _ _ _ _ _ _ _ _ _ _ _ _ _ _ _ _ _ _ _ _ _ _ _ _ _ _ _ _ _ _ _ _ _ _ _ _ _ _ _ _ _ _ _ _ _ _ _ _ _ _ _ _ _ _ _ _ _ _ _ _ _ _ _ _ _ _ _ _ _ _ _ _ _ _ _ _ _ _ _ _ _ _ _ _ _ _ _ _ _ _ _ _ _ _ _ _ _ _ _ _ _ _ _ _ _ _ _ _ _ _ _ _ _ _ _ _ _ _ _ _ _ _ _ _ _ _ _ _ _ _ _ _ _ _ _ _ _ _ _ _ _ _ _ _
                                  go_wp2_with fail
                                  go_meet
                                  exact ⟨S1, c6, x1, g1, rfl, g2, g3⟩
                              · as_aux_lemma =>
                                  refine liv_k1 HA5 HI2 hlt2 hx hj hk1 (fun d v c a w h => by cases d <;> exact h) (Lib.hid ?_)
                                  intro nv uv hv dv tv S1 c6 x1 wx g1 g2 g3 _ _ _ _ _ _ _ _ _ _ _ _ _ _ _ _ _ _ _ _ _ _ _ _ _ _ _ _ _ _ _ _ _ _ _ _ _ _ _ _ _ _ _ _ _ _ _ _ _ _ _ _ _ _ _ _ _ _ _ _ _ _ _ _ _ _ _ _ _ _ _ _ _ _ _ _ _ _ _ _ _ _ _ _ _ _ _ _ _ _ _ _ _ _ _ _ _ _ _ _ _ _ _ _ _ _ _ _ _ _ _ _ _ _ _ _ _ _ _ _ _ _ _ _ _ _ _ _ _ _ _ _ _ _ _ _ _ _ _ _ _ _ _ _ _ _ _ _ _ _ _ _ _ _ _ _ _ _ _ _ _ _ _ _ _ _ _ _ _ _ _ _ _ _ _ _ _ _ _ _ _ _ _ _ _ _ _ _ _ _ _ _ _ _ _ _ _ _ _ _ _ _ _ _ _ _ _ _ _ _
                                  go_wp2_with fail
                                  go_meet
                                  exact ⟨S1, c6, x1, g1, rfl, g2, g3⟩
                              · as_aux_lemma =>
                                  refine liv_k2 HA5 HI2 hlt2 hx hj hk2 (fun d v c a w h => by cases d <;> exact h) (Lib.hid ?_)
                                  intro nv uv hv dv tv S1 c6 x1 wx g1 g2 g3 _ _ _ _ _ _ _ _ _ _ _ _ _ _ _ _ _ _ _ _ _ _ _ _ _ _ _ _ _ _ _ _ _ _ _ _ _ _ _ _ _ _ _ _ _ _ _ _ _ _ _ _ _ _ _ _ _ _ _ _ _ _ _ _ _ _ _ _ _ _ _ _ _ _ _ _ _ _ _ _ _ _ _ _ _ _ _ _ _ _ _ _ _ _ _ _ _ _ _ _ _ _ _ _ _ _ _ _ _ _ _ _ _ _ _ _ _ _ _ _ _ _ _ _ _ _ _ _ _ _ _ _ _ _ _ _ _ _ _ _ _ _ _ _ _ _ _ _ _ _ _ _ _ _ _ _ _ _ _ _ _ _ _ _ _ _ _ _ _ _ _ _ _ _ _ _ _ _ _ _ _ _ _ _ _ _ _ _ _ _ _ _ _ _ _ _ _ _ _ _ _ _ _ _ _ _ _ _ _ _
                                  go_wp2_with fail
                                  go_meet
                                  exact ⟨S1, c6, x1, g1, rfl, g2, g3⟩
                              · as_aux_lemma =>
                                  refine liv_k3 HA5 HI2 hlt2 hx hj hk3 (fun d v c a w h => by cases d <;> exact h) (Lib.hid ?_)
                                  intro nv uv hv dv tv S1 c6 x1 wx g1 g2 g3 _ _ _ _ _ _ _ _ _ _ _ _ _ _ _ _ _ _ _ _ _ _ _ _ _ _ _ _ _ _ _ _ _ _ _ _ _ _ _ _ _ _ _ _ _ _ _ _ _ _ _ _ _ _ _ _ _ _ _ _ _ _ _ _ _ _ _ _ _ _ _ _ _ _ _ _ _ _ _ _ _ _ _ _ _ _ _ _ _ _ _ _ _ _ _ _ _ _ _ _ _ _ _ _ _ _ _ _ _ _ _ _ _ _ _ _ _ _ _ _ _ _ _ _ _ _ _ _ _ _ _ _ _ _ _ _ _ _ _ _ _ _ _ _ _ _ _ _ _ _ _ _ _ _ _ _ _ _ _ _ _ _ _ _ _ _ _ _ _ _ _ _ _ _ _ _ _ _ _ _ _ _ _ _ _ _ _ _ _ _ _ _ _ _ _ _ _ _ _ _ _ _ _ _ _ _ _ _ _ _
                                  go_wp2_with fail
                                  go_meet
                                  exact ⟨S1, c6, x1, g1, rfl, g2, g3⟩
                              · as_aux_lemma =>
                                  refine liv_k4 HA5 HI2 hlt2 hx hj hk4 (fun d v c a w h => by cases d <;> exact h) (Lib.hid ?_)
                                  intro nv uv hv dv tv S1 c6 x1 wx g1 g2 g3 _ _ _ _ _ _ _ _ _ _ _ _ _ _ _ _ _ _ _ _ _ _ _ _ _ _ _ _ _ _ _ _ _ _ _ _ _ _ _ _ _ _ _ _ _ _ _ _ _ _ _ _ _ _ _ _ _ _ _ _ _ _ _ _ _ _ _ _ _ _ _ _ _ _ _ _ _ _ _ _ _ _ _ _ _ _ _ _ _ _ _ _ _ _ _ _ _ _ _ _ _ _ _ _ _ _ _ _ _ _ _ _ _ _ _ _ _ _ _ _ _ _ _ _ _ _ _ _ _ _ _ _ _ _ _ _ _ _ _ _ _ _ _ _ _ _ _ _ _ _ _ _ _ _ _ _ _ _ _ _ _ _ _ _ _ _ _ _ _ _ _ _ _ _ _ _ _ _ _ _ _ _ _ _ _ _ _ _ _ _ _ _ _ _ _ _ _ _ _ _ _ _ _ _ _ _ _ _ _ _
                                  go_wp2_with fail
                                  go_meet
                                  exact ⟨S1, c6, x1, g1, rfl, g2, g3⟩
                              · as_aux_lemma =>
                                  refine liv_k5 HA5 HI2 hlt2 hx hj hk5 (fun d v c a w h => by cases d <;> exact h) (Lib.hid ?_)
                                  intro nv uv hv dv tv S1 c6 x1 wx g1 g2 g3 _ _ _ _ _ _ _ _ _ _ _ _ _ _ _ _ _ _ _ _ _ _ _ _ _ _ _ _ _ _ _ _ _ _ _ _ _ _ _ _ _ _ _ _ _ _ _ _ _ _ _ _ _ _ _ _ _ _ _ _ _ _ _ _ _ _ _ _ _ _ _ _ _ _ _ _ _ _ _ _ _ _ _ _ _ _ _ _ _ _ _ _ _ _ _ _ _ _ _ _ _ _ _ _ _ _ _ _ _ _ _ _ _ _ _ _ _ _ _ _ _ _ _ _ _ _ _ _ _ _ _ _ _ _ _ _ _ _ _ _ _ _ _ _ _ _ _ _ _ _ _ _ _ _ _ _ _ _ _ _ _ _ _ _ _ _ _ _ _ _ _ _ _ _ _ _ _ _ _ _ _ _ _ _ _ _ _ _ _ _ _ _ _ _ _ _ _ _ _ _ _ _ _ _ _ _ _ _ _ _
                                  go_wp2_with fail
                                  go_meet
                                  exact ⟨S1, c6, x1, g1, rfl, g2, g3⟩
                              · as_aux_lemma =>
                                  refine liv_k6 HA5 HI2 hlt2 hx hj hk6 (fun d v c a w h => by cases d <;> exact h) (Lib.hid ?_)
                                  intro nv uv hv dv tv S1 c6 x1 wx g1 g2 g3 _ _ _ _ _ _ _ _ _ _ _ _ _ _ _ _ _ _ _ _ _ _ _ _ _ _ _ _ _ _ _ _ _ _ _ _ _ _ _ _ _ _ _ _ _ _ _ _ _ _ _ _ _ _ _ _ _ _ _ _ _ _ _ _ _ _ _ _ _ _ _ _ _ _ _ _ _ _ _ _ _ _ _ _ _ _ _ _ _ _ _ _ _ _ _ _ _ _ _ _ _ _ _ _ _ _ _ _ _ _ _ _ _ _ _ _ _ _ _ _ _ _ _ _ _ _ _ _ _ _ _ _ _ _ _ _ _ _ _ _ _ _ _ _ _ _ _ _ _ _ _ _ _ _ _ _ _ _ _ _ _ _ _ _ _ _ _ _ _ _ _ _ _ _ _ _ _ _ _ _ _ _ _ _ _ _ _ _ _ _ _ _ _ _ _ _ _ _ _ _ _ _ _ _ _ _ _ _ _ _
                                  go_wp2_with fail
                                  go_meet
                                  exact ⟨S1, c6, x1, g1, rfl, g2, g3⟩
                              · as_aux_lemma =>
                                  refine liv_k7 HA5 HI2 hlt2 hx hj hk7 (fun d v c a w h => by cases d <;> exact h) (Lib.hid ?_)
                                  intro nv uv hv dv tv S1 c6 x1 wx g1 g2 g3 _ _ _ _ _ _ _ _ _ _ _ _ _ _ _ _ _ _ _ _ _ _ _ _ _ _ _ _ _ _ _ _ _ _ _ _ _ _ _ _ _ _ _ _ _ _ _ _ _ _ _ _ _ _ _ _ _ _ _ _ _ _ _ _ _ _ _ _ _ _ _ _ _ _ _ _ _ _ _ _ _ _ _ _ _ _ _ _ _ _ _ _ _ _ _ _ _ _ _ _ _ _ _ _ _ _ _ _ _ _ _ _ _ _ _ _ _ _ _ _ _ _ _ _ _ _ _ _ _ _ _ _ _ _ _ _ _ _ _ _ _ _ _ _ _ _ _ _ _ _ _ _ _ _ _ _ _ _ _ _ _ _ _ _ _ _ _ _ _ _ _ _ _ _ _ _ _ _ _ _ _ _ _ _ _ _ _ _ _ _ _ _ _ _ _ _ _ _ _ _ _ _ _ _ _ _ _ _ _ _
                                  go_wp2_with fail
                                  go_meet
                                  exact ⟨S1, c6, x1, g1, rfl, g2, g3⟩
                              · as_aux_lemma =>
                                  refine liv_kd HA5 HI2 hlt2 hx hj hk0 hk1 hk2 hk3 hk4 hk5 hk6 hk7 (fun d v c a w h => by cases d <;> exact h) (Lib.hid ?_)
                                  intro nv uv hv dv tv S1 c6 x1 wx g1 g2 g3 _ _ _ _ _ _ _ _ _ _ _ _ _ _ _ _ _ _ _ _ _ _ _ _ _ _ _ _ _ _ _ _ _ _ _ _ _ _ _ _ _ _ _ _ _ _ _ _ _ _ _ _ _ _ _ _ _ _ _ _ _ _ _ _ _ _ _ _ _ _ _ _ _ _ _ _ _ _ _ _ _ _ _ _ _ _ _ _ _ _ _ _ _ _ _ _ _ _ _ _ _ _ _ _ _ _ _ _ _ _ _ _ _ _ _ _ _ _ _ _ _ _ _ _ _ _ _ _ _ _ _ _ _ _ _ _ _ _ _ _ _ _ _ _ _ _ _ _ _ _ _ _ _ _ _ _ _ _ _ _ _ _ _ _ _ _ _ _ _ _ _ _ _ _ _ _ _ _ _ _ _ _ _ _ _ _ _ _ _ _ _ _ _ _ _ _ _ _ _ _ _ _ _ _ _ _ _ _ _ _
                                  go_wp2_with fail
                                  go_meet
                                  exact ⟨S1, c6, x1, g1, rfl, g2, g3⟩
                          case rest =>
                            as_aux_lemma =>
                              obtain ⟨S1, c6, x1, hx1, rfl, hM1, hMid⟩ := hcut
                              obtain ⟨an1, cn1, rfl, hnn1, hcn1, _⟩ := hM1.n.form
                              obtain ⟨au1, cu1, rfl, hnu1, hcu1, _⟩ := hM1.u.form
                              obtain ⟨ar1, cr1, rfl, hnr1, hcr1, _⟩ := hM1.r.form
                              obtain ⟨ad1, cd1, rfl, hnd1, hcd1, _⟩ := hM1.d.form
                              obtain ⟨at1, ct1, rfl, hnt1, hct1, _⟩ := hM1.t.form
                              have HM1 := Lib.hid hM1
                              have HMID := Lib.hid hMid
                              obtain ⟨wD, hwD⟩ : ∃ wD, wD = wc := ⟨_, rfl⟩
                              rw [← hwD] at HM1 ⊢
                              clear hM1 hMid hwD HA5 hnn hcn hnu hcu hnr hcr hnd hcd hnt hct
                              as_aux_lemma =>
                                go_step
                                refine liv_tail HM1 HMID hi (Lib.hid ?_)
                                intro nv uv hv dv tv wx c8 c9 hM hI _ _ _ _ _ _ _ _ _ _ _ _ _ _ _ _ _ _ _ _ _ _ _ _ _ _ _ _ _ _ _ _ _ _ _ _ _ _ _ _ _ _ _ _ _ _ _ _ _ _ _ _ _ _ _ _ _ _ _ _ _ _ _ _ _ _ _ _ _ _ _ _ _ _ _ _ _ _ _ _ _ _ _ _ _ _ _ _ _ _ _ _ _ _ _ _ _ _ _ _ _ _ _ _ _ _ _ _ _ _ _ _ _ _ _ _ _ _ _ _ _ _ _ _ _ _ _ _ _ _ _ _ _ _ _ _ _ _ _ _ _ _ _ _ _ _ _ _ _ _ _ _ _ _ _ _ _ _ _ _ _ _ _ _ _ _ _ _ _ _ _ _ _ _ _ _ _ _ _ _ _ _ _ _ _ _ _ _ _ _ _ _ _ _ _ _ _ _ _ _ _ _ _ _
                                have HM9 := Lib.hid hM
                                have HI9 := Lib.hid hI
                                clear hM hI
                                go_wp2_with fail
                                go_roundw
                                case rel => exact ⟨i + 1, _, _, _, x1, by omega, by omega, by go_num, rfl, HM9.out, HI9.out⟩
                                case measure => simp [intOf]; omega
        · obtain rfl : i = 120 := by omega
          have hi1 : ((120 : Nat) : Int) < (n : Int) + 60 := by omega
          as_aux_lemma =>
            go_wp2_with fail
            refine (lives29_any _).mono ?_; rintro e w9 ⟨rfl, hm9⟩
            go_wp2
            go_ret
            exact ⟨rfl, HM.out.col.mod.trans hm9 fun _ f => f.elim⟩
      · have hi1 : ¬ (i : Int) < (n : Int) + 60 := by omega
        as_aux_lemma =>
          go_wp2_with fail
          refine (lives29_any _).mono ?_; rintro e w9 ⟨rfl, hm9⟩
          go_wp2
          go_ret
          exact ⟨rfl, HM.out.col.mod.trans hm9 fun _ f => f.elim⟩
end Go.Proofs.Ytidkapanpieflaa
