/- LinkLives: the switch at kind 4. (Printed by gen_livk.py.) -/
import Derived.Test.YtidkapanpieflaaLivS
import Derived.Deep.CutBlock
namespace Go.Proofs.Ytidkapanpieflaa
open Go.RowKit
set_option linter.unusedVariables false
set_option linter.unusedSimpArgs false
set_option maxHeartbeats 8000000 in
set_option maxRecDepth 100000 in
theorem liv_k4 {e0 k at_ : Int} {ad : Option Addr} {n cap p q pa x i j cc : Nat} {an au ar ad6 at7 : Option Addr} {cn cu cr cd6 ct : Nat} {S : LS} {w wB : World} {c5 : Nat → Nat} {u4 u17 u18 u19 u20 u21 u22 u23 u24 u25 u26 u27 u28 u29 u30 u31 u32 u33 u34 u35 u36 u37 u38 u39 u40 u41 u42 u43 u44 u45 u46 u47 u48 u49 u50 u51 u52 u53 u54 u55 u56 u57 u58 u59 u60 u61 u62 u63 u64 u65 u66 u67 u68 u69 u70 u71 u72 u73 u74 u75 u76 u78 u79 u80 u81 u82 u83 u84 u85 u86 u87 u88 u89 u90 u91 u92 u93 u94 u95 u96 u97 u98 u99 u100 u101 u102 u103 u104 u105 u106 u107 u108 u109 u110 u111 u112 u113 u114 u115 u116 u117 u118 u119 u120 u121 u122 u123 u124 u125 u126 u127 u128 u129 u130 u131 u132 u133 u134 u135 u136 u137 u138 u139 u140 u141 u142 u143 u144 u145 u146 u147 u148 u149 u150 u151 u152 u153 u154 u155 u156 u157 u158 u159 u160 u161 u162 u163 u164 u165 u166 u167 u168 u169 u170 u171 u172 u173 u174 u175 u176 u177 u178 u179 u180 u181 u182 u183 u184 u185 u186 u187 u188 u189 u190 u191 u192 u193 u194 u195 u196 u197 u198 u199 u200 u201 u202 u203 u204 u205 u206 u207 u208 u209 u210 u211 u212 u213 u214 u215 u216 u217 u218 u219 u220 u221 u222 u223 u224 u225 u226 u227 u228 u229 u230 u231 u232 u233 u234 u235 u236 u237 : Value}
    (HA5 : Hid (LivA w wB p q pa (.slice an S.net.length cn) (.slice au S.up.length cu) (.slice ar S.heard.length cr) (.slice ad6 S.down.length cd6) (.slice at7 S.told.length ct) c5 S k at_)) (HI2 : Hid (InvL e0 S cc i)) (hlt2 : i < 120) (hx : x ≤ i) (hj : 0 < S.net.length → j < S.net.length) (hk4 : k = 4)
    {Q : Exit → Act → World → Prop} (HP : ∀ d v c a w, Q (.panic c) (Act.put a d v) w → Q (.panic c) a w)
    (HQ : Hid (∀ nv uv hv dv tv S1 c6 (x1 : Nat) wx, x1 ≤ i + 1 → LivM w wx p q nv uv hv dv tv c6 S1 → MidR e0 S.E.epoch S1 i → ∀ u17 u18 u19 u20 u21 u22 u23 u24 u35 u36 u37 u38 u39 u40 u41 u42 u43 u44 u45 u46 u47 u48 u49 u50 u51 u52 u53 u54 u55 u56 u57 u58 u59 u60 u61 u62 u63 u64 u65 u66 u67 u68 u69 u70 u71 u72 u73 u74 u75 u76 u77 u78 u79 u80 u81 u82 u83 u84 u85 u86 u87 u88 u89 u90 u91 u92 u93 u94 u95 u96 u97 u98 u99 u100 u101 u102 u103 u104 u105 u106 u107 u108 u109 u110 u111 u112 u113 u114 u115 u116 u117 u118 u119 u120 u121 u122 u123 u124 u125 u126 u127 u128 u129 u130 u131 u132 u133 u134 u135 u136 u137 u138 u139 u140 u141 u142 u143 u144 u145 u146 u147 u148 u149 u150 u151 u152 u153 u154 u155 u156 u157 u158 u159 u160 u161 u162 u163 u164 u165 u166 u167 u168 u169 u170 u171 u172 u173 u174 u175 u176 u177 u178 u179 u180 u181 u182 u183 u184 u185 u186 u187 u188 u189 u190 u191 u192 u193 u194 u195 u196 u197 u198 u199 u200 u201 u202 u203 u204 u205 u206 u207 u208 u209 u210 u211 u212 u213 u214 u215 u216 u217 u218 u219 u220 u221 u222 u223 u224 u225 u226 u227 u228 u229 u230 u231 u232 u233 u234 u235 u236, Q .normal ⟨List.toArray ((.int .u32 e0) :: (.slice ad n cap) :: (undef) :: (undef) :: (u4) :: (.pointer (some ⟨p, 0, none⟩)) :: (.pointer (some ⟨q, 0, none⟩)) :: (nv) :: (uv) :: (hv) :: (dv) :: (tv) :: (.int .i64 (x1 : Int)) :: (.int .i64 (i : Int)) :: (.pointer (some ⟨pa, 0, none⟩)) :: (.int .i64 (j : Int)) :: (.int .u32 S.E.epoch) :: u17 :: u18 :: u19 :: u20 :: u21 :: u22 :: u23 :: u24 :: (u25) :: (u26) :: (u27) :: (u28) :: (u29) :: (u30) :: (u31) :: (u32) :: (u33) :: (u34) :: u35 :: u36 :: u37 :: u38 :: u39 :: u40 :: u41 :: u42 :: u43 :: u44 :: u45 :: u46 :: u47 :: u48 :: u49 :: u50 :: u51 :: u52 :: u53 :: u54 :: u55 :: u56 :: u57 :: u58 :: u59 :: u60 :: u61 :: u62 :: u63 :: u64 :: u65 :: u66 :: u67 :: u68 :: u69 :: u70 :: u71 :: u72 :: u73 :: u74 :: u75 :: u76 :: u77 :: u78 :: u79 :: u80 :: u81 :: u82 :: u83 :: u84 :: u85 :: u86 :: u87 :: u88 :: u89 :: u90 :: u91 :: u92 :: u93 :: u94 :: u95 :: u96 :: u97 :: u98 :: u99 :: u100 :: u101 :: u102 :: u103 :: u104 :: u105 :: u106 :: u107 :: u108 :: u109 :: u110 :: u111 :: u112 :: u113 :: u114 :: u115 :: u116 :: u117 :: u118 :: u119 :: u120 :: u121 :: u122 :: u123 :: u124 :: u125 :: u126 :: u127 :: u128 :: u129 :: u130 :: u131 :: u132 :: u133 :: u134 :: u135 :: u136 :: u137 :: u138 :: u139 :: u140 :: u141 :: u142 :: u143 :: u144 :: u145 :: u146 :: u147 :: u148 :: u149 :: u150 :: u151 :: u152 :: u153 :: u154 :: u155 :: u156 :: u157 :: u158 :: u159 :: u160 :: u161 :: u162 :: u163 :: u164 :: u165 :: u166 :: u167 :: u168 :: u169 :: u170 :: u171 :: u172 :: u173 :: u174 :: u175 :: u176 :: u177 :: u178 :: u179 :: u180 :: u181 :: u182 :: u183 :: u184 :: u185 :: u186 :: u187 :: u188 :: u189 :: u190 :: u191 :: u192 :: u193 :: u194 :: u195 :: u196 :: u197 :: u198 :: u199 :: u200 :: u201 :: u202 :: u203 :: u204 :: u205 :: u206 :: u207 :: u208 :: u209 :: u210 :: u211 :: u212 :: u213 :: u214 :: u215 :: u216 :: u217 :: u218 :: u219 :: u220 :: u221 :: u222 :: u223 :: u224 :: u225 :: u226 :: u227 :: u228 :: u229 :: u230 :: u231 :: u232 :: u233 :: u234 :: u235 :: u236 :: (u237) :: []), []⟩ wx)) :
    Code.wp Try.prog (pickC [1, 1, 1, 0, 1, 0, 0, 1, 0, 0, 1, 1, 1, 1, 0, 1] (Try.f10.body.getD .skip)) Q ⟨List.toArray ((.int .u32 e0) :: (.slice ad n cap) :: (undef) :: (undef) :: u4 :: (.pointer (some ⟨p, 0, none⟩)) :: (.pointer (some ⟨q, 0, none⟩)) :: (.slice an S.net.length cn) :: (.slice au S.up.length cu) :: (.slice ar S.heard.length cr) :: (.slice ad6 S.down.length cd6) :: (.slice at7 S.told.length ct) :: (.int .i64 (x : Int)) :: (.int .i64 (i : Int)) :: (.pointer (some ⟨pa, 0, none⟩)) :: (.int .i64 (j : Int)) :: (.int .u32 S.E.epoch) :: u17 :: u18 :: u19 :: u20 :: u21 :: u22 :: u23 :: u24 :: u25 :: u26 :: u27 :: u28 :: u29 :: u30 :: u31 :: u32 :: u33 :: u34 :: u35 :: u36 :: u37 :: u38 :: u39 :: u40 :: u41 :: u42 :: u43 :: u44 :: u45 :: u46 :: u47 :: u48 :: u49 :: u50 :: u51 :: u52 :: u53 :: u54 :: u55 :: u56 :: u57 :: u58 :: u59 :: u60 :: u61 :: u62 :: u63 :: u64 :: u65 :: u66 :: u67 :: u68 :: u69 :: u70 :: u71 :: u72 :: u73 :: u74 :: u75 :: u76 :: (.int .i64 k) :: u78 :: u79 :: u80 :: u81 :: u82 :: u83 :: u84 :: u85 :: u86 :: u87 :: u88 :: u89 :: u90 :: u91 :: u92 :: u93 :: u94 :: u95 :: u96 :: u97 :: u98 :: u99 :: u100 :: u101 :: u102 :: u103 :: u104 :: u105 :: u106 :: u107 :: u108 :: u109 :: u110 :: u111 :: u112 :: u113 :: u114 :: u115 :: u116 :: u117 :: u118 :: u119 :: u120 :: u121 :: u122 :: u123 :: u124 :: u125 :: u126 :: u127 :: u128 :: u129 :: u130 :: u131 :: u132 :: u133 :: u134 :: u135 :: u136 :: u137 :: u138 :: u139 :: u140 :: u141 :: u142 :: u143 :: u144 :: u145 :: u146 :: u147 :: u148 :: u149 :: u150 :: u151 :: u152 :: u153 :: u154 :: u155 :: u156 :: u157 :: u158 :: u159 :: u160 :: u161 :: u162 :: u163 :: u164 :: u165 :: u166 :: u167 :: u168 :: u169 :: u170 :: u171 :: u172 :: u173 :: u174 :: u175 :: u176 :: u177 :: u178 :: u179 :: u180 :: u181 :: u182 :: u183 :: u184 :: u185 :: u186 :: u187 :: u188 :: u189 :: u190 :: u191 :: u192 :: u193 :: u194 :: u195 :: u196 :: u197 :: u198 :: u199 :: u200 :: u201 :: u202 :: u203 :: u204 :: u205 :: u206 :: u207 :: u208 :: u209 :: u210 :: u211 :: u212 :: u213 :: u214 :: u215 :: u216 :: u217 :: u218 :: u219 :: u220 :: u221 :: u222 :: u223 :: u224 :: u225 :: u226 :: u227 :: u228 :: u229 :: u230 :: u231 :: u232 :: u233 :: u234 :: u235 :: u236 :: u237 :: []), []⟩ wB := by
  obtain ⟨_, _, e1, hnn, hcn, _⟩ := HA5.out.m.n.form
  obtain ⟨_, _, e2, hnu, hcu, _⟩ := HA5.out.m.u.form
  obtain ⟨_, _, e3, hnr, hcr, _⟩ := HA5.out.m.r.form
  obtain ⟨_, _, e4, hnd, hcd, _⟩ := HA5.out.m.d.form
  obtain ⟨_, _, e5, hnt, hct, _⟩ := HA5.out.m.t.form
  cases e1; cases e2; cases e3; cases e4; cases e5
  unfold maxLen at hcn hcu hcr hcd hct
  have hl3 := HI2.out.nn
  have hl4 := HI2.out.nu
  have hl5 := HI2.out.nr
  have hl6 := HI2.out.nd
  have hl7 := HI2.out.nt
  conv => arg 2; whnf
  subst hk4
  by_cases hz0 : 0 < S.net.length
  · have hz1 : ¬ (S.net.length : Int) = 0 := by omega
    have hjl := hj hz0
    have hji : (j : Int) < (S.net.length : Int) := by omega
    obtain ⟨mz, hmz⟩ : ∃ mz, S.net[j]? = some mz := ⟨_, List.getElem?_eq_getElem hjl⟩
    have HMEM : Hid (mz ∈ S.net) := Lib.hid (List.mem_of_getElem? hmz)
    have hok : Hid mz.Ok := Lib.hid (HI2.out.ph.mid mz HMEM.out).ok
    obtain ⟨g, rfl, x0, x1, x2, x3, x4, x5, x6⟩ := HA5.out.m.n.msg rfl hmz
    clear hmz
    go_upto_region 36 with fail
    obtain ⟨wM, hwM⟩ : ∃ wM, wM = wB.alloc (.cells #[.int .i64 mz.node, .bool mz.up, .int .u32 mz.epoch, .int .i64 mz.kind, .int .u32 mz.ack, .int .u32 mz.seq, .string mz.body] 65) := ⟨_, rfl⟩
    obtain ⟨pm, hpm⟩ : ∃ pm, pm = wB.heap.size := ⟨_, rfl⟩
    have hM : ∃ cM, LivM w wM p q (.slice (some ⟨g, 0, none⟩) S.net.length cn) (.slice au S.up.length cu) (.slice ar S.heard.length cr) (.slice ad6 S.down.length cd6) (.slice at7 S.told.length ct) cM S := ⟨_, HA5.out.m.still (hwM ▸ (Mod.refl _ _).alloc _) 9⟩
    have HBM : Hid (Blk wM pm 65 [.int .i64 mz.node, .bool mz.up, .int .u32 mz.epoch, .int .i64 mz.kind, .int .u32 mz.ack, .int .u32 mz.seq, .string mz.body]) := Lib.hid (by rw [hwM, hpm]; exact Blk.new wB _ _)
    have HBA : Hid (Blk wM pa 82 [.int .i64 4, .int .i64 at_]) := Lib.hid (by rw [hwM]; exact HA5.out.box.alloc _)
    try rw [← hwM]
    try rw [← hpm]
    obtain ⟨cM, hM⟩ := hM
    have HMM := Lib.hid hM
    clear hM hwM hpm x0 x1 x2 x3 x4 x5 x6
    have kb0 := HBA.out.cell (j := 0) rfl
    go_wp2_with fail
    clear kb0
    obtain ⟨wD, hwD⟩ : ∃ wD, wD = World.drew wM := ⟨_, rfl⟩
    have HMD := Lib.hid (show LivM w wD p q _ _ _ _ _ cM S from hwD ▸ HMM.out.drew)
    have HBMD : Hid (Blk wD pm 65 [.int .i64 mz.node, .bool mz.up, .int .u32 mz.epoch, .int .i64 mz.kind, .int .u32 mz.ack, .int .u32 mz.seq, .string mz.body]) := Lib.hid (hwD ▸ HBM.out.drew)
    have HBAD : Hid (Blk wD pa 82 [.int .i64 4, .int .i64 at_]) := Lib.hid (hwD ▸ HBA.out.drew)
    have hdr := HMD.out.n
    have hcd2 : ∀ (j : Nat) u, (MsgV.vals S.net)[j]? = some u → wD.cell? ⟨g, j, none⟩ = some u := fun j u h => by have := hdr.1.cells (g := g) rfl j u h; rwa [addr_add, Nat.zero_add] at this
    have hj1 : j + 1 ≤ S.net.length := by omega
    have hj2 : j ≤ S.net.length := by omega
    obtain ⟨ad2, had, hadl, hadc⟩ := slice_from (size := 7) hdr.len hcd2 hj1 hnn
    have HDR := Lib.hid hdr
    have HHC := Lib.hid hcd2
    have HAD := Lib.hid had
    have HADL := Lib.hid hadl
    have HADC := Lib.hid hadc
    have hati2 : (j : Int) ≤ (cn : Int) := by omega
    have hwj : IntKind.i64.wrap ((j : Int) + 1) = ((j + 1 : Nat) : Int) := by rw [IntWalk.i64_in _ (by omega)]; rfl
    have HWJ := Lib.hid hwj
    clear hdr hcd2 had hadl hadc hwj
    have hS : True := trivial
    refine wp_region_plan [0, 4, 9] [(1, 0), (2, 0), (3, 0), (5, 0), (6, 0), (7, 0), (8, 0), (0, 3), (4, 3), (9, 3), (10, 0)] (fun w' : World => True) (by kernel_rfl) (by kernel_rfl) (fun d v c a w h => by first | (cases d <;> exact h) | exact HP d v c a w h) ?_
    rw [← hwD]
    clear hwD
    repeat (first | (refine plan_skip rfl rfl ?_; simp only [List.getElem_toArray, List.getElem_cons_succ, List.getElem_cons_zero, Act.put, List.setIfInBounds_toArray, List.set_cons_zero, List.set_cons_succ]) | (refine plan_pass2 rfl rfl ?_; simp only [List.getElem_toArray, List.getElem_cons_succ, List.getElem_cons_zero, Act.put, List.setIfInBounds_toArray, List.set_cons_zero, List.set_cons_succ]) | (refine plan_pass3 rfl rfl ?_; simp only [List.getElem_toArray, List.getElem_cons_succ, List.getElem_cons_zero, Act.put, List.setIfInBounds_toArray, List.set_cons_zero, List.set_cons_succ]) | (refine plan_take (v := ?_) rfl rfl ?_ ?_; rotate_left; (focus (intro w0; go_simp; try with_reducible rfl)); simp only [List.getElem_toArray, List.getElem_cons_succ, List.getElem_cons_zero, Act.put, List.setIfInBounds_toArray, List.set_cons_zero, List.set_cons_succ]) | (refine plan_held (v := ?_) rfl rfl hS ?_ ?_; rotate_left; (focus (intro w0 hSw; (try dsimp only at hSw); go_split_ands; go_simp; try with_reducible rfl)); simp only [List.getElem_toArray, List.getElem_cons_succ, List.getElem_cons_zero, Act.put, List.setIfInBounds_toArray, List.set_cons_zero, List.set_cons_succ])  | (refine plan_skip1 rfl rfl hS ?_; simp only [List.getElem_toArray, List.getElem_cons_succ, List.getElem_cons_zero, Act.put, List.setIfInBounds_toArray, List.set_cons_zero, List.set_cons_succ]))
    try simp only [HWJ.out]
    (refine plan_take (v := .slice (some ad2) (S.net.length - (j + 1)) (cn - (j + 1))) rfl rfl (fun w0 => exec_slice_from (o := ⟨some 161, .slice 72 (.tmp 158) (some (.tmp 160)) none none, _, _, _, _⟩) Try.elMsg rfl rfl rfl hj1 hnn HAD.out w0) ?_; try simp only [List.getElem_toArray, List.getElem_cons_succ, List.getElem_cons_zero, Act.put, List.setIfInBounds_toArray, List.set_cons_zero, List.set_cons_succ])
    repeat (first | (refine plan_skip rfl rfl ?_; simp only [List.getElem_toArray, List.getElem_cons_succ, List.getElem_cons_zero, Act.put, List.setIfInBounds_toArray, List.set_cons_zero, List.set_cons_succ]) | (refine plan_pass2 rfl rfl ?_; simp only [List.getElem_toArray, List.getElem_cons_succ, List.getElem_cons_zero, Act.put, List.setIfInBounds_toArray, List.set_cons_zero, List.set_cons_succ]) | (refine plan_pass3 rfl rfl ?_; simp only [List.getElem_toArray, List.getElem_cons_succ, List.getElem_cons_zero, Act.put, List.setIfInBounds_toArray, List.set_cons_zero, List.set_cons_succ]) | (refine plan_take (v := ?_) rfl rfl ?_ ?_; rotate_left; (focus (intro w0; go_simp; try with_reducible rfl)); simp only [List.getElem_toArray, List.getElem_cons_succ, List.getElem_cons_zero, Act.put, List.setIfInBounds_toArray, List.set_cons_zero, List.set_cons_succ]) | (refine plan_held (v := ?_) rfl rfl hS ?_ ?_; rotate_left; (focus (intro w0 hSw; (try dsimp only at hSw); go_split_ands; go_simp; try with_reducible rfl)); simp only [List.getElem_toArray, List.getElem_cons_succ, List.getElem_cons_zero, Act.put, List.setIfInBounds_toArray, List.set_cons_zero, List.set_cons_succ])  | (refine plan_skip1 rfl rfl hS ?_; simp only [List.getElem_toArray, List.getElem_cons_succ, List.getElem_cons_zero, Act.put, List.setIfInBounds_toArray, List.set_cons_zero, List.set_cons_succ]))
    (refine plan_end rfl rfl rfl fun K hK => ?_; (try simp only [List.getElem_toArray, List.getElem_cons_succ, List.getElem_cons_zero]); go_simp; refine hK _ _ ?_; clear hK K; try simp only [List.getElem_toArray, List.getElem_cons_succ, List.getElem_cons_zero, Act.put, List.setIfInBounds_toArray, List.set_cons_zero, List.set_cons_succ])
    (refine plan_end rfl rfl rfl fun K hK => ?_; try simp only [List.getElem_toArray, List.getElem_cons_succ, List.getElem_cons_zero])
    have hX1 : (wD.alloc (.cells #[] 65)).heap[wD.heap.size]? = some (.cells #[] 65 (0, 0)) := allocNew wD _
    refine wp_append_row Try.elMsg (.tmp 153) (.tmp 156) rfl (fun k => wD.heap.size ≤ k) (.slice (some ⟨wD.heap.size, 0, none⟩) 0 0) 0 [] rfl (Row.made (cur := #[]) hX1 rfl (by unfold maxLen; omega) (Nat.le_refl _)) ⟨g, 0, none⟩ j cn ((MsgV.vals S.net).take (j * 7)) rfl (by rw [List.length_take, MsgV.vals_len]; omega) (fun i u hu => ?_) (fun u hu => MsgV.vals_all _ u (List.mem_of_mem_take hu)) (by omega) (by unfold maxLen; omega) ?_
    · rw [List.getElem?_take] at hu
      split at hu
      · rw [addr_add, Nat.zero_add]; exact allocCell _ (HHC.out _ _ hu)
      · cases hu
    intro v2 w8 hr2 hm2
    have hm2' := Mod.allocThen hm2
    have nb : ∀ x, x < wD.heap.size → ¬ (Value.slice (some ⟨wD.heap.size, 0, none⟩) 0 0).ownBlock = some x := fun x hx e => by simp [Value.ownBlock] at e; omega
    rw [Nat.zero_add, List.nil_append] at hr2
    obtain ⟨ae, cape, rfl, hne, hce, _⟩ := hr2.form
    refine hK _ _ ?_
    clear hK K
    try simp only [List.getElem_toArray, List.getElem_cons_succ, List.getElem_cons_zero, Act.put, List.setIfInBounds_toArray, List.set_cons_zero, List.set_cons_succ]
    have hr2' : Row w8 (fun k => wD.heap.size ≤ k) 65 7 (.slice ae j cape) j ((MsgV.vals S.net).take (j * 7)) := hr2.mono fun k hk => hk.elim id fun h => by first | omega | exact allocLe h | (simp at h; omega)
    have nb2 : ∀ x, x < wD.heap.size → ¬ (Value.slice ae j cape).ownBlock = some x := fun x hx e => by have := hr2'.2 x e; omega
    have HR2 := Lib.hid hr2'
    have HM2 := Lib.hid hm2'
    have NB := Lib.hid nb
    have NB2 := Lib.hid nb2
    clear hr2 hr2' hm2 hm2' nb nb2 hX1
    repeat (first | (refine plan_skip rfl rfl ?_; simp only [List.getElem_toArray, List.getElem_cons_succ, List.getElem_cons_zero, Act.put, List.setIfInBounds_toArray, List.set_cons_zero, List.set_cons_succ]) | (refine plan_pass2 rfl rfl ?_; simp only [List.getElem_toArray, List.getElem_cons_succ, List.getElem_cons_zero, Act.put, List.setIfInBounds_toArray, List.set_cons_zero, List.set_cons_succ]) | (refine plan_pass3 rfl rfl ?_; simp only [List.getElem_toArray, List.getElem_cons_succ, List.getElem_cons_zero, Act.put, List.setIfInBounds_toArray, List.set_cons_zero, List.set_cons_succ]) | (refine plan_take (v := ?_) rfl rfl ?_ ?_; rotate_left; (focus (intro w0; go_simp; try with_reducible rfl)); simp only [List.getElem_toArray, List.getElem_cons_succ, List.getElem_cons_zero, Act.put, List.setIfInBounds_toArray, List.set_cons_zero, List.set_cons_succ]) | (refine plan_held (v := ?_) rfl rfl hS ?_ ?_; rotate_left; (focus (intro w0 hSw; (try dsimp only at hSw); go_split_ands; go_simp; try with_reducible rfl)); simp only [List.getElem_toArray, List.getElem_cons_succ, List.getElem_cons_zero, Act.put, List.setIfInBounds_toArray, List.set_cons_zero, List.set_cons_succ])  | (refine plan_skip1 rfl rfl hS ?_; simp only [List.getElem_toArray, List.getElem_cons_succ, List.getElem_cons_zero, Act.put, List.setIfInBounds_toArray, List.set_cons_zero, List.set_cons_succ]))
    (refine plan_end rfl rfl rfl fun K hK => ?_; try simp only [List.getElem_toArray, List.getElem_cons_succ, List.getElem_cons_zero])
    refine wp_append_row Try.elMsg (.tmp 157) (.tmp 161) rfl (fun k => wD.heap.size ≤ k) (.slice ae j cape) j ((MsgV.vals S.net).take (j * 7)) rfl HR2.out ad2 (S.net.length - (j + 1)) (cn - (j + 1)) ((MsgV.vals S.net).drop ((j + 1) * 7)) rfl HADL.out (fun i u hu => HM2.out.cell (NB.out _ (World.block_lt_of_cell? wD _ (HADC.out i u hu))) (HADC.out i u hu)) (fun u hu => MsgV.vals_all _ u (List.mem_of_mem_drop hu)) (by omega) (by unfold maxLen; omega) ?_
    intro v3 w9 hr3 hm3
    obtain ⟨af, capf, rfl, hnf, hcf, _⟩ := hr3.form
    refine hK _ _ ?_
    clear hK K
    try simp only [List.getElem_toArray, List.getElem_cons_succ, List.getElem_cons_zero, Act.put, List.setIfInBounds_toArray, List.set_cons_zero, List.set_cons_succ]
    obtain ⟨n9, hn9e⟩ : ∃ n9, n9 = ndel S.net j := ⟨_, rfl⟩
    have hle : j + (S.net.length - (j + 1)) = n9.length := by rw [hn9e]; unfold ndel; simp; omega
    rw [hle] at hr3 hnf ⊢
    have hm9 : Mod (fun _ => False) wD w9 := (HM2.out.mono (G := fun _ => False) fun x hx => .inr (by simp [Value.ownBlock] at hx; omega)).trans hm3 fun x hx => .inr (HR2.out.2 x hx)
    have HM9 := Lib.hid (HMD.out.nM (l' := n9) (hr3.mono fun k hk => .inr (hk.elim id fun h => Nat.le_trans HM2.out.size h)) (hm9.mono fun _ f => f.elim) rfl (by rw [MsgV.vals_take, MsgV.vals_drop, ← MsgV.vals_app, hn9e]; rfl))
    have HB9 : Hid (Blk w9 pm 65 [.int .i64 mz.node, .bool mz.up, .int .u32 mz.epoch, .int .i64 mz.kind, .int .u32 mz.ack, .int .u32 mz.seq, .string mz.body]) := Lib.hid (HBMD.out.keep hm9 fun f => f)
    have HBA9 : Hid (Blk w9 pa 82 [.int .i64 4, .int .i64 at_]) := Lib.hid (HBAD.out.keep hm9 fun f => f)
    have HSUB : Hid (∀ m ∈ n9, m ∈ S.net) := Lib.hid (hn9e ▸ ndel_mem)
    generalize paint cM wD w9 3 = c9 at HM9
    have hn40 : n9.length ≤ 40 := by omega
    clear hr3 hm3 hm9 hle hn9e HM2 HR2 NB NB2 HADC HADL HAD HHC HDR HWJ hS hati2 HMD HBMD HBAD HMM HBM HBA
    repeat (first | (refine plan_skip rfl rfl ?_; simp only [List.getElem_toArray, List.getElem_cons_succ, List.getElem_cons_zero, Act.put, List.setIfInBounds_toArray, List.set_cons_zero, List.set_cons_succ]) | (refine plan_pass2 rfl rfl ?_; simp only [List.getElem_toArray, List.getElem_cons_succ, List.getElem_cons_zero, Act.put, List.setIfInBounds_toArray, List.set_cons_zero, List.set_cons_succ]) | (refine plan_pass3 rfl rfl ?_; simp only [List.getElem_toArray, List.getElem_cons_succ, List.getElem_cons_zero, Act.put, List.setIfInBounds_toArray, List.set_cons_zero, List.set_cons_succ]) | (refine plan_take (v := ?_) rfl rfl ?_ ?_; rotate_left; (focus (intro w0; go_simp; try with_reducible rfl)); simp only [List.getElem_toArray, List.getElem_cons_succ, List.getElem_cons_zero, Act.put, List.setIfInBounds_toArray, List.set_cons_zero, List.set_cons_succ]) | fail )
    refine plan_nil ?_
    have kb0 := HBA9.out.cell (j := 0) rfl
    have y0 := HB9.out.cell (j := 0) rfl
    have y1 := HB9.out.cell (j := 1) rfl
    have y2 := HB9.out.cell (j := 2) rfl
    have y3 := HB9.out.cell (j := 3) rfl
    have y4 := HB9.out.cell (j := 4) rfl
    have y5 := HB9.out.cell (j := 5) rfl
    have y6 := HB9.out.cell (j := 6) rfl
    rcases (show mz.up = true ∨ mz.up = false by cases mz.up <;> simp) with hup | hup
    · have HUP := Lib.hid hup
      have HZ : Hid (({ mz with up := true } : MsgV) = mz) := Lib.hid (by cases mz; cases hup; rfl)
      rw [hup] at y1
      clear hup
      obtain ⟨r, hr⟩ : ∃ r, r = hubHear S.l S.G mz := ⟨_, rfl⟩
      have hlen := hubHear_len (l := S.l) (G := S.G) (m := mz) fun L hL => (HM9.out.h.ok L hL).2.1
      have HMD := Lib.hid (HI2.out.hub (by omega) (fun L hL => (HM9.out.h.ok L hL).2.1) HMEM.out HUP.out HSUB.out)
      rw [← hr] at hlen HMD
      obtain ⟨hq1, hq2, _⟩ := hlen
      have HR := Lib.hid hr
      clear hr
      go_wp2_with fail
      refine (HHear_any HM9.out.h { mz with up := true } (HZ.out.symm ▸ hok.out)).mono ?_; rintro e w10 ⟨v1, v2, rfl, hv1, hv2, hx, hm⟩
      rw [HZ.out] at hv1 hv2 hx ⊢
      have HM10 := Lib.hid (HM9.out.hM hx hm)
      have hV1 := hv1.monoLt (paint_born c9 _ w10 2)
      have hV2 := hv2.monoLt (paint_born c9 _ w10 2)
      rw [show hubHear ({ S with net := n9 } : LS).l ({ S with net := n9 } : LS).G mz = r from HR.out.symm] at HM10 hV1 hV2 ⊢
      generalize paint c9 w9 w10 2 = c10 at HM10 hV1 hV2
      obtain ⟨bg, ls, os, l2⟩ := r
      dsimp only at hq1 hq2 HM10 hV1 hV2 HMD ⊢
      obtain ⟨a1, cp1, rfl, _, _, _⟩ := hV1.form
      obtain ⟨a2, cp2, rfl, _, _, _⟩ := hV2.form
      have HV1 := Lib.hid hV1
      have HV2 := Lib.hid hV2
      clear hx hm hv1 hv2 hV1 hV2 y0 y1 y2 y3 y4 y5 y6 HM9 HB9 HBA9
      go_upto_if 179 with fail
      go_cut [9, 10, 11] from 179 to 182 (fun hv dv tv wx => ∃ (c11 : Nat → Nat), LivM w wx p q (.slice af n9.length capf) (.slice au S.up.length cu) hv dv tv c11 ⟨S.E, l2, S.G, n9, S.up, if bg = true then [] else S.heard, if bg = true then [] else S.down, if bg = true then [] else S.told⟩ ∧ Row wx (fun k => c11 k = 2) 9 1 (.slice a1 ls.length cp1) ls.length (ls.map .string) ∧ Row wx (fun k => c11 k = 2) 65 7 (.slice a2 os.length cp2) os.length (MsgV.vals os))
      case first =>
        cases bg with
        | true =>
          obtain ⟨c11, hM11, hold⟩ := HM10.out.three
          have hm3 : Mod (fun _ => False) w10 (((w10.alloc (.cells #[] 9)).alloc (.cells #[] 9)).alloc (.cells #[] 9)) := (((Mod.refl _ _).alloc _).alloc _).alloc _
          have HX : Hid _ := Lib.hid (show _ from (⟨c11, hM11, (HV1.out.keep hm3 fun _ _ f => f).monoLt fun k hk _ => (hold k (HM10.out.col.lt (by decide) k hk)).trans hk, (HV2.out.keep hm3 fun _ _ f => f).monoLt fun k hk _ => (hold k (HM10.out.col.lt (by decide) k hk)).trans hk⟩ : ∃ c11, LivM _ _ _ _ _ _ _ _ _ c11 _ ∧ Row _ (fun k => c11 k = 2) _ _ _ _ _ ∧ Row _ (fun k => c11 k = 2) _ _ _ _ _))
          clear hM11 hold hm3
          go_wp2_with fail
          go_meet
          exact HX.out
        | false =>
          go_wp2_with fail
          go_meet
          exact ⟨c10, HM10.out, HV1.out, HV2.out⟩
      case rest =>
        obtain ⟨c11, hM11, hV1, hV2⟩ := hcut
        obtain ⟨w11, hw11⟩ : ∃ w11, w11 = wc := ⟨_, rfl⟩
        rw [← hw11] at hM11 hV1 hV2 ⊢
        obtain ⟨T, hT⟩ : ∃ T : LS, T = ⟨S.E, l2, S.G, n9, S.up, if bg = true then [] else S.heard, if bg = true then [] else S.down, if bg = true then [] else S.told⟩ := ⟨_, rfl⟩
        rw [← hT] at hM11
        have hth : T.heard.length ≤ 65 * i := by rw [hT]; show (if bg = true then [] else S.heard).length ≤ _; split; exact Nat.zero_le _; omega
        have hMM : ∀ (z : LS), z = ⟨T.E, T.l, T.G, T.net ++ os, T.up, T.heard ++ ls, T.down, T.told⟩ → MidR e0 S.E.epoch z i := fun z hz => by
          have h := HMD.out
          unfold LS.hub at h
          rw [← HR.out] at h
          rw [hz, hT]
          exact h
        have HMM2 := Lib.hid hMM
        have HTN : Hid (T.net = n9) := Lib.hid (by rw [hT])
        obtain ⟨ar2, cr2, rfl, _, _, _⟩ := hM11.r.form
        obtain ⟨ad3, cd3, rfl, _, _, _⟩ := hM11.d.form
        obtain ⟨at3, ct3, rfl, _, _, _⟩ := hM11.t.form
        have hn9 := hM11.n
        have HM11 := Lib.hid hM11
        have HN9 := Lib.hid hn9
        have HV1' := Lib.hid hV1
        have HV2' := Lib.hid hV2
        clear hM11 hV1 hV2 hw11 hT hMM hn9 HM10 HV1 HV2
        go_wp2_with first
          | (at_builtin; (refine wpList_append_reads Try.elStr rfl (.tmp 183) (.tmp 184) rfl _ _ _ _ rfl HM11.out.r _ ls.length (ls.map .string) rfl HV1'.out.reads (by simp) (str_all _) (by omega) (by unfold maxLen; omega) ?_); intro v12 w12 hR12 hm12; have HM12 := Lib.hid (HM11.out.rM (l' := T.heard ++ ls) hR12 hm12 (by simp) (by simp)); have HV12 := Lib.hid (HV2'.out.away HM11.out.col hm12 (by decide) (by decide) 5); clear hR12 hm12)
          | (at_builtin; (refine wpList_append_reads Try.elMsg rfl (.tmp 186) (.tmp 187) rfl _ _ _ _ rfl HM12.out.n _ os.length (MsgV.vals os) rfl HV12.out.reads (by rw [MsgV.vals_len]) (MsgV.vals_all _) (by rw [show T.net = n9 from HTN.out]; omega) (by unfold maxLen; rw [show T.net = n9 from HTN.out]; omega) ?_); intro v13 w13 hR13 hm13; have HM13 := Lib.hid (HM12.out.nM (l' := T.net ++ os) hR13 hm13 (by simp) (MsgV.vals_app _ _).symm); clear hR13 hm13)
        refine HQ.out _ _ _ _ _ (_) _ (x) _ (by omega) (HM13.out) (HMM2.out _ rfl) _ _ _ _ _ _ _ _ _ _ _ _ _ _ _ _ _ _ _ _ _ _ _ _ _ _ _ _ _ _ _ _ _ _ _ _ _ _ _ _ _ _ _ _ _ _ _ _ _ _ _ _ _ _ _ _ _ _ _ _ _ _ _ _ _ _ _ _ _ _ _ _ _ _ _ _ _ _ _ _ _ _ _ _ _ _ _ _ _ _ _ _ _ _ _ _ _ _ _ _ _ _ _ _ _ _ _ _ _ _ _ _ _ _ _ _ _ _ _ _ _ _ _ _ _ _ _ _ _ _ _ _ _ _ _ _ _ _ _ _ _ _ _ _ _ _ _ _ _ _ _ _ _ _ _ _ _ _ _ _ _ _ _ _ _ _ _ _ _ _ _ _ _ _ _ _ _ _ _ _ _ _ _ _ _ _ _ _ _ _ _ _ _ _ _ _ _ _ _ _ _ _ _ _ _ _ _ _ _ _
    · have HUP := Lib.hid hup
      have HZ : Hid (({ mz with up := false } : MsgV) = mz) := Lib.hid (by cases mz; cases hup; rfl)
      rw [hup] at y1
      clear hup
      have HMD := Lib.hid (HI2.out.ear (by omega) HM9.out.e.life.2.1 HMEM.out HUP.out HSUB.out)
      have hlen : (S.E.ehear mz).1.length ≤ 65 := by
        unfold Life.ehear
        split
        · exact Nat.zero_le _
        · split
          · exact Nat.zero_le _
          · exact hear_len HM9.out.e.life.2.1 mz
      go_wp2_with fail
      refine (EHear_any p _ _ { mz with up := false } _ HM9.out.e (HZ.out.symm ▸ hok.out)).mono ?_; rintro e w10 ⟨v1, rfl, hv1, he, hm⟩
      rw [HZ.out] at hv1 he ⊢
      have HM10 := Lib.hid (HM9.out.eM he hm)
      have HV1 := Lib.hid hv1.reads
      obtain ⟨ls, hls⟩ : ∃ z, z = (S.E.ehear mz).1 := ⟨_, rfl⟩
      rw [show (({ S with net := n9 } : LS).E.ehear mz).1 = ls from hls.symm] at HV1
      rw [← hls] at hlen
      have HLS := Lib.hid hls
      clear hls he hm hv1 y0 y1 y2 y3 y4 y5 y6 HM9 HB9 HBA9
      go_wp2_with (at_builtin; go_loud (refine wpList_append_reads Try.elStr rfl (.tmp 195) (.tmp 196) rfl _ _ _ _ rfl HM10.out.t _ ls.length (ls.map .string) rfl HV1.out (by simp) (str_all _) (by dsimp only; omega) (by unfold maxLen; dsimp only; omega) ?_); intro v12 w12 hR12 hm12; have HM12 := Lib.hid (HM10.out.tM (l' := S.told ++ ls) hR12 hm12 (by simp) (by simp)); clear hR12 hm12)
      refine HQ.out _ _ _ _ _ ({ S.ear mz with net := n9 }) _ (x) _ (by omega) (HM12.out.to (by rw [HLS.out]; rfl)) (HMD.out) _ _ _ _ _ _ _ _ _ _ _ _ _ _ _ _ _ _ _ _ _ _ _ _ _ _ _ _ _ _ _ _ _ _ _ _ _ _ _ _ _ _ _ _ _ _ _ _ _ _ _ _ _ _ _ _ _ _ _ _ _ _ _ _ _ _ _ _ _ _ _ _ _ _ _ _ _ _ _ _ _ _ _ _ _ _ _ _ _ _ _ _ _ _ _ _ _ _ _ _ _ _ _ _ _ _ _ _ _ _ _ _ _ _ _ _ _ _ _ _ _ _ _ _ _ _ _ _ _ _ _ _ _ _ _ _ _ _ _ _ _ _ _ _ _ _ _ _ _ _ _ _ _ _ _ _ _ _ _ _ _ _ _ _ _ _ _ _ _ _ _ _ _ _ _ _ _ _ _ _ _ _ _ _ _ _ _ _ _ _ _ _ _ _ _ _ _ _ _ _ _ _ _ _ _ _ _ _ _ _
  · have hz1 : (S.net.length : Int) = 0 := by omega
    go_wp2_with fail
    refine HQ.out _ _ _ _ _ (S) c5 (x) _ (by omega) (HA5.out.m) (HI2.out.skip) _ _ _ _ _ _ _ _ _ _ _ _ _ _ _ _ _ _ _ _ _ _ _ _ _ _ _ _ _ _ _ _ _ _ _ _ _ _ _ _ _ _ _ _ _ _ _ _ _ _ _ _ _ _ _ _ _ _ _ _ _ _ _ _ _ _ _ _ _ _ _ _ _ _ _ _ _ _ _ _ _ _ _ _ _ _ _ _ _ _ _ _ _ _ _ _ _ _ _ _ _ _ _ _ _ _ _ _ _ _ _ _ _ _ _ _ _ _ _ _ _ _ _ _ _ _ _ _ _ _ _ _ _ _ _ _ _ _ _ _ _ _ _ _ _ _ _ _ _ _ _ _ _ _ _ _ _ _ _ _ _ _ _ _ _ _ _ _ _ _ _ _ _ _ _ _ _ _ _ _ _ _ _ _ _ _ _ _ _ _ _ _ _ _ _ _ _ _ _ _ _ _ _ _ _ _ _ _ _ _

end Go.Proofs.Ytidkapanpieflaa
