/- compat.Cut: contract, case by case. (Printed by gen_cut.py.) -/
import Derived.Test.YtcccdlmngddalaaGreatGrX
namespace Go.Proofs.YtcccdlmngddalaaGreat
open Go.RowKit Go.Sort
set_option linter.unusedVariables false
set_option linter.unusedSimpArgs false
/-- a tune -/
structure Tn where
  robust : Int
  every : Int
  resp : Int
  last : Int
  count : Int
def Tn.c (t : Tn) : List Value := [.int .i64 t.robust, .int .i64 t.every, .int .i64 t.resp, .int .i64 t.last, .int .i64 t.count]
def Tn.ok (t : Tn) : Prop := 1 ≤ t.robust ∧ t.robust ≤ 7 ∧ 1 ≤ t.every ∧ t.every ≤ 317440 ∧ 1 ≤ t.resp ∧ t.resp ≤ 31744 ∧ 1 ≤ t.last ∧ t.last ≤ 31744 ∧ 1 ≤ t.count ∧ t.count ≤ 7
def Tn.member (t : Tn) : Int := t.robust * t.every + t.resp
def Tn.final (t : Tn) : Int := t.last * t.count
theorem Tn.prod {a b m n : Int} (h1 : 1 ≤ a) (h2 : a ≤ m) (h3 : 1 ≤ b) (h4 : b ≤ n) : 1 ≤ a * b ∧ a * b ≤ m * n := by
  constructor
  · have := Int.mul_le_mul h1 h3 (by omega) (by omega); simpa using this
  · exact Int.mul_le_mul h2 h4 (by omega) (by omega)
theorem Tn.member_bd {t : Tn} (h : t.ok) : 2 ≤ t.member ∧ t.member ≤ 2300000 := by
  obtain ⟨a, b, c, d, e, f, _⟩ := h
  have := Tn.prod a b c d
  unfold Tn.member
  omega
theorem Tn.final_bd {t : Tn} (h : t.ok) : 1 ≤ t.final ∧ t.final ≤ 300000 := by
  obtain ⟨_, _, _, _, _, _, a, b, c, d⟩ := h
  have := Tn.prod a b c d
  unfold Tn.final
  omega
set_option maxRecDepth 100000 in
theorem member_s (t : Tn) (ht : t.ok) (w : World) : Calls Tryz.prog 99 #[.agg t.c.toArray] w fun e w' => e = .returned (.int .i64 t.member) ∧ Mod (fun _ => False) w w' := by
  have hb := Blk.new w 32 t.c
  have c0 := hb.cell (j := 0) rfl
  have c1 := hb.cell (j := 1) rfl
  have c2 := hb.cell (j := 2) rfl
  have e1 : IntKind.i64.wrap (t.robust * t.every) = t.robust * t.every := IntWalk.i64_in _ (by obtain ⟨a, b, c, d, e, f, _⟩ := ht; have := Tn.prod a b c d; omega)
  have e2 : IntKind.i64.wrap (t.robust * t.every + t.resp) = t.member := IntWalk.i64_in _ (by have := Tn.member_bd ht; unfold Tn.member at this; omega)
  have HM : Hid (Mod (fun _ => False) w (w.alloc (.cells t.c.toArray 32 (0, 0)))) := Lib.hid ((Mod.refl _ _).alloc _)
  clear hb ht
  go_enter Tryz.func99, Tryz.ntmps99
  go_wp2
  go_ret
  exact ⟨rfl, HM.out⟩
theorem tuSz : (Tryz.prog.info? 32).map (·.size) = some 5 := by kernel_rfl
set_option maxRecDepth 100000 in
theorem Member_s (t : Tn) (ht : t.ok) (w : World) : Calls Tryz.prog 49 #[.agg t.c.toArray] w fun e w' => e = .returned (.int .i64 t.member) ∧ Mod (fun _ => False) w w' := by
  have HB := Lib.hid (Blk.new w 32 t.c)
  have HM : Hid (Mod (fun _ => False) w (w.alloc (.cells t.c.toArray 32 (0, 0)))) := Lib.hid ((Mod.refl _ _).alloc _)
  have HT := Lib.hid ht
  clear ht
  go_enter Tryz.func49, Tryz.ntmps49
  go_wp2_with (first | (refine wpList_load_blk rfl _ _ rfl w.heap.size 0 rfl 32 t.c t.c _ HB.out rfl Tryz.underlying32 rfl tuSz ?_) | (go_at_call 99; refine (member_s t HT.out _).mono ?_; rintro e w1 ⟨rfl, hm⟩; have HM1 := Lib.hid (HM.out.trans hm fun _ f => f.elim); clear hm))
  go_ret
  exact ⟨rfl, HM1.out⟩
set_option maxRecDepth 100000 in
theorem Older_s (t : Tn) (ht : t.ok) (w : World) : Calls Tryz.prog 86 #[.agg t.c.toArray] w fun e w' => e = .returned (.int .i64 t.member) ∧ Mod (fun _ => False) w w' := by
  have HB := Lib.hid (Blk.new w 32 t.c)
  have HM : Hid (Mod (fun _ => False) w (w.alloc (.cells t.c.toArray 32 (0, 0)))) := Lib.hid ((Mod.refl _ _).alloc _)
  have HT := Lib.hid ht
  clear ht
  go_enter Tryz.func86, Tryz.ntmps86
  go_wp2_with (first | (refine wpList_load_blk rfl _ _ rfl w.heap.size 0 rfl 32 t.c t.c _ HB.out rfl Tryz.underlying32 rfl tuSz ?_) | (go_at_call 99; refine (member_s t HT.out _).mono ?_; rintro e w1 ⟨rfl, hm⟩; have HM1 := Lib.hid (HM.out.trans hm fun _ f => f.elim); clear hm))
  go_ret
  exact ⟨rfl, HM1.out⟩
set_option maxRecDepth 100000 in
theorem Final_s (t : Tn) (ht : t.ok) (w : World) : Calls Tryz.prog 52 #[.agg t.c.toArray] w fun e w' => e = .returned (.int .i64 t.final) ∧ Mod (fun _ => False) w w' := by
  have hb := Blk.new w 32 t.c
  have c3 := hb.cell (j := 3) rfl
  have c4 := hb.cell (j := 4) rfl
  have e1 : IntKind.i64.wrap (t.last * t.count) = t.final := IntWalk.i64_in _ (by have := Tn.final_bd ht; unfold Tn.final at this; omega)
  have HM : Hid (Mod (fun _ => False) w (w.alloc (.cells t.c.toArray 32 (0, 0)))) := Lib.hid ((Mod.refl _ _).alloc _)
  clear hb ht
  go_enter Tryz.func52, Tryz.ntmps52
  go_wp2
  go_ret
  exact ⟨rfl, HM.out⟩
def lastV (v6 : Bool) : Int := if v6 then 2 else 3
theorem last_s (v6 : Bool) (w : World) : Calls Tryz.prog 87 #[.bool v6] w fun e w' => e = .returned (.int .i64 (lastV v6)) ∧ w' = w := by
  go_enter Tryz.func87, Tryz.ntmps87
  cases v6 <;> (go_wp2; go_ret; exact ⟨rfl, rfl⟩)
def modeV (v6 : Bool) (now one two : Int) : Int := if one > now then 1 else if v6 = false ∧ two > now then 2 else lastV v6
theorem modeV_in (v6 : Bool) (now one two : Int) : modeV v6 now one two = 1 ∨ modeV v6 now one two = 2 ∨ modeV v6 now one two = 3 := by
  unfold modeV lastV
  split
  · exact .inl rfl
  · split
    · exact .inr (.inl rfl)
    · split
      · exact .inr (.inl rfl)
      · exact .inr (.inr rfl)
theorem Mode_s (v6 : Bool) (now one two : Int) (w : World) : Calls Tryz.prog 89 #[.bool v6, .int .i64 now, .int .i64 one, .int .i64 two] w fun e w' => e = .returned (.int .i64 (modeV v6 now one two)) ∧ w' = w := by
  by_cases h1 : one > now
  · rw [show modeV v6 now one two = 1 from if_pos h1]
    go_enter Tryz.func89, Tryz.ntmps89
    go_wp2
    go_ret
    exact ⟨rfl, rfl⟩
  · cases v6 with
    | true =>
      rw [show modeV true now one two = lastV true by unfold modeV; rw [if_neg h1, if_neg (by simp)]]
      go_enter Tryz.func89, Tryz.ntmps89
      go_wp2_with (go_at_call 87; refine (last_s _ _).mono ?_; rintro e w1 ⟨rfl, rfl⟩)
      go_ret
      exact ⟨rfl, rfl⟩
    | false =>
      by_cases h2 : two > now
      · rw [show modeV false now one two = 2 by unfold modeV; rw [if_neg h1, if_pos ⟨rfl, h2⟩]]
        go_enter Tryz.func89, Tryz.ntmps89
        go_wp2
        go_ret
        exact ⟨rfl, rfl⟩
      · rw [show modeV false now one two = lastV false by unfold modeV; rw [if_neg h1, if_neg (fun h => h2 h.2)]]
        go_enter Tryz.func89, Tryz.ntmps89
        go_wp2_with (go_at_call 87; refine (last_s _ _).mono ?_; rintro e w1 ⟨rfl, rfl⟩)
        go_ret
        exact ⟨rfl, rfl⟩
/-- a record -/
def recC (k : Int) (g : Ad) (v : Value) : List Value := .int .i64 k :: (g.c ++ [v])
theorem recC_len (k : Int) (g : Ad) (v : Value) : (recC k g v).length = 19 := by simp [recC, g.c_len]
theorem rcSz : (Tryz.prog.info? 38).map (·.size) = some 19 := by kernel_rfl
theorem recC_sz (k : Int) (g : Ad) (v : Value) : (Tryz.prog.info? 38).map (·.size) = some (recC k g v).length := by rw [recC_len]; exact rcSz
theorem recC_18 (k : Int) (g : Ad) (v : Value) : (recC k g v)[18]? = some v := by
  unfold recC
  rw [List.getElem?_cons_succ, List.getElem?_append_right (by rw [g.c_len]; omega), g.c_len]
  rfl
theorem recC_set (k : Int) (g : Ad) (v u : Value) : (recC k g v).set 18 u = recC k g u := by
  unfold recC
  rw [List.set_cons_succ, List.set_append_right _ _ (by rw [g.c_len]; omega), g.c_len]
  rfl
theorem recC_one (k : Int) (g : Ad) (v : Value) (h : v.oneCell' = true) : ∀ u ∈ recC k g v, u.oneCell' = true := by
  intro u hu
  unfold recC at hu
  rcases List.mem_cons.1 hu with rfl | hu
  · rfl
  · rcases List.mem_append.1 hu with hu | hu
    · exact g.c_one u hu
    · rw [List.mem_singleton.1 hu]; exact h
set_option maxRecDepth 100000 in
theorem cown_s {ad : Option Addr} {n cap : Nat} {l : List Ad} {w : World} (k : Int) (g : Ad) (h : RdA w (.slice ad n cap) l) (hl : l.length ≤ 2000) :
    Calls Tryz.prog 88 #[.agg (recC k g (.slice ad n cap)).toArray] w fun e w' => ∃ ad' n' cap', e = .returned (.agg (recC k g (.slice ad' n' cap')).toArray) ∧ RT w' (.slice ad' n' cap') l ∧ Mod (fun _ => False) w w' := by
  have HH := Lib.hid h
  have HZ := Lib.hid (recC_sz k g (.slice ad n cap))
  clear h
  have hb := (Blk.new w 38 (recC k g (.slice ad n cap))).alloc (.cells #[.int .i64 0, .bool false, .int .u8 0, .int .u8 0, .int .u8 0, .int .u8 0, .int .u8 0, .int .u8 0, .int .u8 0, .int .u8 0, .int .u8 0, .int .u8 0, .int .u8 0, .int .u8 0, .int .u8 0, .int .u8 0, .int .u8 0, .int .u8 0, .slice none 0 0] 38 (0, 0))
  have c0 : ((w.alloc (.cells (recC k g (.slice ad n cap)).toArray 38 (0, 0))).alloc (.cells #[.int .i64 0, .bool false, .int .u8 0, .int .u8 0, .int .u8 0, .int .u8 0, .int .u8 0, .int .u8 0, .int .u8 0, .int .u8 0, .int .u8 0, .int .u8 0, .int .u8 0, .int .u8 0, .int .u8 0, .int .u8 0, .int .u8 0, .int .u8 0, .slice none 0 0] 38 (0, 0))).cell? ⟨w.heap.size, 18, none⟩ = some (.slice ad n cap) := hb.cell (recC_18 _ _ _)
  have HB := Lib.hid hb
  have HR : Hid (Blk ((w.alloc (.cells (recC k g (.slice ad n cap)).toArray 38 (0, 0))).alloc (.cells #[.int .i64 0, .bool false, .int .u8 0, .int .u8 0, .int .u8 0, .int .u8 0, .int .u8 0, .int .u8 0, .int .u8 0, .int .u8 0, .int .u8 0, .int .u8 0, .int .u8 0, .int .u8 0, .int .u8 0, .int .u8 0, .int .u8 0, .int .u8 0, .slice none 0 0] 38 (0, 0))) (w.heap.size + 1) 38 ([.int .i64 0, .bool false, .int .u8 0, .int .u8 0, .int .u8 0, .int .u8 0, .int .u8 0, .int .u8 0, .int .u8 0, .int .u8 0, .int .u8 0, .int .u8 0, .int .u8 0, .int .u8 0, .int .u8 0, .int .u8 0, .int .u8 0, .int .u8 0, .slice none 0 0] : List Value)) := Lib.hid (by
    have := Blk.new (w.alloc (.cells (recC k g (.slice ad n cap)).toArray 38 (0, 0))) 38 ([.int .i64 0, .bool false, .int .u8 0, .int .u8 0, .int .u8 0, .int .u8 0, .int .u8 0, .int .u8 0, .int .u8 0, .int .u8 0, .int .u8 0, .int .u8 0, .int .u8 0, .int .u8 0, .int .u8 0, .int .u8 0, .int .u8 0, .int .u8 0, .slice none 0 0] : List Value)
    rwa [show (w.alloc (.cells (recC k g (.slice ad n cap)).toArray 38 (0, 0))).heap.size = w.heap.size + 1 by simp] at this)
  have HM : Hid (Mod (fun _ => False) w ((w.alloc (.cells (recC k g (.slice ad n cap)).toArray 38 (0, 0))).alloc (.cells #[.int .i64 0, .bool false, .int .u8 0, .int .u8 0, .int .u8 0, .int .u8 0, .int .u8 0, .int .u8 0, .int .u8 0, .int .u8 0, .int .u8 0, .int .u8 0, .int .u8 0, .int .u8 0, .int .u8 0, .int .u8 0, .int .u8 0, .int .u8 0, .slice none 0 0] 38 (0, 0)))) := Lib.hid (((Mod.refl _ _).alloc _).alloc _)
  have HF : Hid (18 < (recC k g (.slice ad n cap)).length) := Lib.hid (by rw [recC_len]; omega)
  have HS : Hid (∀ v, (Tryz.prog.info? 38).map (·.size) = some (recC k g v).length) := Lib.hid fun v => recC_sz k g v
  have HF2 : Hid (∀ v, 0 + (recC k g v).length ≤ ([.int .i64 0, .bool false, .int .u8 0, .int .u8 0, .int .u8 0, .int .u8 0, .int .u8 0, .int .u8 0, .int .u8 0, .int .u8 0, .int .u8 0, .int .u8 0, .int .u8 0, .int .u8 0, .int .u8 0, .int .u8 0, .int .u8 0, .int .u8 0, .slice none 0 0] : List Value).length) := Lib.hid fun v => by rw [recC_len]; decide
  clear hb
  go_enter Tryz.func88, Tryz.ntmps88
  go_wp2_with (first
    | (go_at_call 90; refine (Clone_s (HH.out.keep0 HM.out) hl).mono ?_; rintro e W1 ⟨b1, m1, d1, rfl, hr1, hm1⟩; have HR1 := Lib.hid hr1.rt; have HM1 : Hid (Mod (fun _ => False) w W1) := Lib.hid (HM.out.trans hm1 fun _ f => f.elim); have HB1 := Lib.hid (HB.out.keep hm1 fun f => f); have HQ1 := Lib.hid (HR.out.keep hm1 fun f => f); clear hr1 hm1)
    | (refine wpList_store_blk1 rfl _ _ _ rfl w.heap.size 18 38 _ (.slice b1 m1 d1) rfl rfl HB1.out HF.out slASz rfl ?_; intro W2 HB2 HX2; have HB3 : Hid (Blk W2 w.heap.size 38 (recC k g (.slice b1 m1 d1))) := Lib.hid (by have := HB2.out; rwa [recC_set] at this); have HR2 := Lib.hid (HR1.out.keepT HX2.out (HB1.out.notA (by decide))); have HQ2 := Lib.hid (HQ1.out.keep HX2.out fun e => by omega); have HM2 : Hid (Mod (fun _ => False) w W2) := Lib.hid (HM1.out.trans HX2.out fun q hq => .inr (by omega)))
    | (refine wpList_load_blk rfl _ _ rfl w.heap.size 0 rfl 38 _ (recC k g (.slice b1 m1 d1)) _ HB3.out (List.take_of_length_le (Nat.le_refl _)) Tryz.underlying38 rfl (HS.out _) ?_)
    | (refine wpList_store_blk rfl _ _ _ rfl (w.heap.size + 1) 0 38 ([.int .i64 0, .bool false, .int .u8 0, .int .u8 0, .int .u8 0, .int .u8 0, .int .u8 0, .int .u8 0, .int .u8 0, .int .u8 0, .int .u8 0, .int .u8 0, .int .u8 0, .int .u8 0, .int .u8 0, .int .u8 0, .int .u8 0, .int .u8 0, .slice none 0 0] : List Value) (recC k g (.slice b1 m1 d1)) rfl rfl HQ2.out (HF2.out _) (HS.out _) (recC_one _ _ _ rfl) ?_; intro W3 HB4 HX3))
  refine bodyPost_ret (results_blk rfl _ (w.heap.size + 1) 38 (recC k g (.slice b1 m1 d1)) rfl (splice_all HB4.out (by rw [recC_len]; rfl)) Tryz.underlying38 rfl (HS.out _)) rfl ?_
  exact ⟨b1, m1, d1, rfl, HR2.out.keepT HX3.out (HQ2.out.notA (by decide)), HM2.out.trans HX3.out fun q hq => .inr (by omega)⟩
end Go.Proofs.YtcccdlmngddalaaGreat
namespace Go.Proofs.YtcccdlmngddalaaGreat
open Go.RowKit Go.Sort
set_option linter.unusedVariables false
set_option linter.unusedSimpArgs false
abbrev zR : List Value := [.int .i64 0, .bool false, .int .u8 0, .int .u8 0, .int .u8 0, .int .u8 0, .int .u8 0, .int .u8 0, .int .u8 0, .int .u8 0, .int .u8 0, .int .u8 0, .int .u8 0, .int .u8 0, .int .u8 0, .int .u8 0, .int .u8 0, .int .u8 0, .slice none 0 0]
def cutG (v6 : Bool) (mode k : Int) (l : List Ad) : Bool × Int × List Ad :=
  if lastV v6 ≤ mode then (true, k, l) else if k = 6 ∨ (k = 3 ∧ mode = 1 ∧ v6 = false) then (false, 0, []) else if k = 4 then (true, 4, []) else (true, k, l)
def RetC (w : World) (x : Bool × Int × List Ad) (e : Ending) (w' : World) : Prop := ∃ g ad n cap, e = .returned (.tuple #[.agg (recC x.2.1 g (.slice ad n cap)).toArray, .bool x.1]) ∧ RT w' (.slice ad n cap) x.2.2 ∧ Mod (fun _ => False) w w'
set_option maxRecDepth 100000 in
theorem cut_t2 {ad : Option Addr} {n cap : Nat} {l : List Ad} {w : World} (k : Int) (g : Ad) (h : RdA w (.slice ad n cap) l) (hl : l.length ≤ 2000)  :
    Calls Tryz.prog 43 #[.bool true, .int .i64 2, .agg (recC k g (.slice ad n cap)).toArray] w (RetC w (true, k, l)) := by
  have HM : Hid (Mod (fun _ => False) w ((w.alloc (.cells (recC k g (.slice ad n cap)).toArray 38 (0, 0))).alloc (.cells zR.toArray 38 (0, 0)))) := Lib.hid (((Mod.refl _ _).alloc _).alloc _)
  have HH : Hid (RdA ((w.alloc (.cells (recC k g (.slice ad n cap)).toArray 38 (0, 0))).alloc (.cells zR.toArray 38 (0, 0))) (.slice ad n cap) l) := Lib.hid (h.keep0 HM.out)
  have HS : Hid (∀ k g v, (Tryz.prog.info? 38).map (·.size) = some (recC k g v).length) := Lib.hid fun k g v => recC_sz k g v
  have HF2 : Hid (∀ k g v, 0 + (recC k g v).length ≤ (zR : List Value).length) := Lib.hid fun k g v => by rw [recC_len]; decide
  have hb := (Blk.new w 38 (recC k g (.slice ad n cap))).alloc (.cells zR.toArray 38 (0, 0))
  have c0 := hb.cell (j := 0) rfl
  have HB := Lib.hid hb
  have HR : Hid (Blk ((w.alloc (.cells (recC k g (.slice ad n cap)).toArray 38 (0, 0))).alloc (.cells zR.toArray 38 (0, 0))) (w.heap.size + 1) 38 zR) := Lib.hid (by
    have := Blk.new (w.alloc (.cells (recC k g (.slice ad n cap)).toArray 38 (0, 0))) 38 zR
    rwa [show (w.alloc (.cells (recC k g (.slice ad n cap)).toArray 38 (0, 0))).heap.size = w.heap.size + 1 by simp] at this)
  clear h hb
  go_enter Tryz.func43, Tryz.ntmps43
  go_wp2_with (first | (go_at_call 87; refine (last_s _ _).mono ?_; rintro e w1 ⟨rfl, rfl⟩; unfold lastV) | (refine wpList_load_blk rfl _ _ rfl w.heap.size 0 rfl 38 _ (recC k g (.slice ad n cap)) _ HB.out (List.take_of_length_le (Nat.le_refl _)) Tryz.underlying38 rfl (HS.out _ _ _) ?_) | (go_at_call 88; refine (cown_s k g HH.out hl).mono ?_; rintro e W1 ⟨b1, m1, d1, rfl, hr1, hm1⟩; have HR1 := Lib.hid hr1; have HM1 : Hid (Mod (fun _ => False) w W1) := Lib.hid (HM.out.trans hm1 fun _ f => f.elim); have HQ1 := Lib.hid (HR.out.keep hm1 fun f => f); clear hr1 hm1) | (refine wpList_store_blk rfl _ _ _ rfl (w.heap.size + 1) 0 38 zR (recC k g (.slice b1 m1 d1)) rfl rfl HQ1.out (HF2.out _ _ _) (HS.out _ _ _) (recC_one _ _ _ rfl) ?_; intro W3 HB4 HX3))
  refine bodyPost_ret (results_blk_tmp rfl _ (w.heap.size + 1) 38 (recC k g (.slice b1 m1 d1)) rfl rfl (splice_all HB4.out (by rw [recC_len]; rfl)) Tryz.underlying38 rfl (HS.out _ _ _)) rfl ?_
  exact ⟨g, b1, m1, d1, rfl, HR1.out.keepT HX3.out (HQ1.out.notA (by decide)), HM1.out.trans HX3.out fun q hq => .inr (by omega)⟩
set_option maxRecDepth 100000 in
theorem cut_t3 {ad : Option Addr} {n cap : Nat} {l : List Ad} {w : World} (k : Int) (g : Ad) (h : RdA w (.slice ad n cap) l) (hl : l.length ≤ 2000)  :
    Calls Tryz.prog 43 #[.bool true, .int .i64 3, .agg (recC k g (.slice ad n cap)).toArray] w (RetC w (true, k, l)) := by
  have HM : Hid (Mod (fun _ => False) w ((w.alloc (.cells (recC k g (.slice ad n cap)).toArray 38 (0, 0))).alloc (.cells zR.toArray 38 (0, 0)))) := Lib.hid (((Mod.refl _ _).alloc _).alloc _)
  have HH : Hid (RdA ((w.alloc (.cells (recC k g (.slice ad n cap)).toArray 38 (0, 0))).alloc (.cells zR.toArray 38 (0, 0))) (.slice ad n cap) l) := Lib.hid (h.keep0 HM.out)
  have HS : Hid (∀ k g v, (Tryz.prog.info? 38).map (·.size) = some (recC k g v).length) := Lib.hid fun k g v => recC_sz k g v
  have HF2 : Hid (∀ k g v, 0 + (recC k g v).length ≤ (zR : List Value).length) := Lib.hid fun k g v => by rw [recC_len]; decide
  have hb := (Blk.new w 38 (recC k g (.slice ad n cap))).alloc (.cells zR.toArray 38 (0, 0))
  have c0 := hb.cell (j := 0) rfl
  have HB := Lib.hid hb
  have HR : Hid (Blk ((w.alloc (.cells (recC k g (.slice ad n cap)).toArray 38 (0, 0))).alloc (.cells zR.toArray 38 (0, 0))) (w.heap.size + 1) 38 zR) := Lib.hid (by
    have := Blk.new (w.alloc (.cells (recC k g (.slice ad n cap)).toArray 38 (0, 0))) 38 zR
    rwa [show (w.alloc (.cells (recC k g (.slice ad n cap)).toArray 38 (0, 0))).heap.size = w.heap.size + 1 by simp] at this)
  clear h hb
  go_enter Tryz.func43, Tryz.ntmps43
  go_wp2_with (first | (go_at_call 87; refine (last_s _ _).mono ?_; rintro e w1 ⟨rfl, rfl⟩; unfold lastV) | (refine wpList_load_blk rfl _ _ rfl w.heap.size 0 rfl 38 _ (recC k g (.slice ad n cap)) _ HB.out (List.take_of_length_le (Nat.le_refl _)) Tryz.underlying38 rfl (HS.out _ _ _) ?_) | (go_at_call 88; refine (cown_s k g HH.out hl).mono ?_; rintro e W1 ⟨b1, m1, d1, rfl, hr1, hm1⟩; have HR1 := Lib.hid hr1; have HM1 : Hid (Mod (fun _ => False) w W1) := Lib.hid (HM.out.trans hm1 fun _ f => f.elim); have HQ1 := Lib.hid (HR.out.keep hm1 fun f => f); clear hr1 hm1) | (refine wpList_store_blk rfl _ _ _ rfl (w.heap.size + 1) 0 38 zR (recC k g (.slice b1 m1 d1)) rfl rfl HQ1.out (HF2.out _ _ _) (HS.out _ _ _) (recC_one _ _ _ rfl) ?_; intro W3 HB4 HX3))
  refine bodyPost_ret (results_blk_tmp rfl _ (w.heap.size + 1) 38 (recC k g (.slice b1 m1 d1)) rfl rfl (splice_all HB4.out (by rw [recC_len]; rfl)) Tryz.underlying38 rfl (HS.out _ _ _)) rfl ?_
  exact ⟨g, b1, m1, d1, rfl, HR1.out.keepT HX3.out (HQ1.out.notA (by decide)), HM1.out.trans HX3.out fun q hq => .inr (by omega)⟩
set_option maxRecDepth 100000 in
theorem cut_f3 {ad : Option Addr} {n cap : Nat} {l : List Ad} {w : World} (k : Int) (g : Ad) (h : RdA w (.slice ad n cap) l) (hl : l.length ≤ 2000)  :
    Calls Tryz.prog 43 #[.bool false, .int .i64 3, .agg (recC k g (.slice ad n cap)).toArray] w (RetC w (true, k, l)) := by
  have HM : Hid (Mod (fun _ => False) w ((w.alloc (.cells (recC k g (.slice ad n cap)).toArray 38 (0, 0))).alloc (.cells zR.toArray 38 (0, 0)))) := Lib.hid (((Mod.refl _ _).alloc _).alloc _)
  have HH : Hid (RdA ((w.alloc (.cells (recC k g (.slice ad n cap)).toArray 38 (0, 0))).alloc (.cells zR.toArray 38 (0, 0))) (.slice ad n cap) l) := Lib.hid (h.keep0 HM.out)
  have HS : Hid (∀ k g v, (Tryz.prog.info? 38).map (·.size) = some (recC k g v).length) := Lib.hid fun k g v => recC_sz k g v
  have HF2 : Hid (∀ k g v, 0 + (recC k g v).length ≤ (zR : List Value).length) := Lib.hid fun k g v => by rw [recC_len]; decide
  have hb := (Blk.new w 38 (recC k g (.slice ad n cap))).alloc (.cells zR.toArray 38 (0, 0))
  have c0 := hb.cell (j := 0) rfl
  have HB := Lib.hid hb
  have HR : Hid (Blk ((w.alloc (.cells (recC k g (.slice ad n cap)).toArray 38 (0, 0))).alloc (.cells zR.toArray 38 (0, 0))) (w.heap.size + 1) 38 zR) := Lib.hid (by
    have := Blk.new (w.alloc (.cells (recC k g (.slice ad n cap)).toArray 38 (0, 0))) 38 zR
    rwa [show (w.alloc (.cells (recC k g (.slice ad n cap)).toArray 38 (0, 0))).heap.size = w.heap.size + 1 by simp] at this)
  clear h hb
  go_enter Tryz.func43, Tryz.ntmps43
  go_wp2_with (first | (go_at_call 87; refine (last_s _ _).mono ?_; rintro e w1 ⟨rfl, rfl⟩; unfold lastV) | (refine wpList_load_blk rfl _ _ rfl w.heap.size 0 rfl 38 _ (recC k g (.slice ad n cap)) _ HB.out (List.take_of_length_le (Nat.le_refl _)) Tryz.underlying38 rfl (HS.out _ _ _) ?_) | (go_at_call 88; refine (cown_s k g HH.out hl).mono ?_; rintro e W1 ⟨b1, m1, d1, rfl, hr1, hm1⟩; have HR1 := Lib.hid hr1; have HM1 : Hid (Mod (fun _ => False) w W1) := Lib.hid (HM.out.trans hm1 fun _ f => f.elim); have HQ1 := Lib.hid (HR.out.keep hm1 fun f => f); clear hr1 hm1) | (refine wpList_store_blk rfl _ _ _ rfl (w.heap.size + 1) 0 38 zR (recC k g (.slice b1 m1 d1)) rfl rfl HQ1.out (HF2.out _ _ _) (HS.out _ _ _) (recC_one _ _ _ rfl) ?_; intro W3 HB4 HX3))
  refine bodyPost_ret (results_blk_tmp rfl _ (w.heap.size + 1) 38 (recC k g (.slice b1 m1 d1)) rfl rfl (splice_all HB4.out (by rw [recC_len]; rfl)) Tryz.underlying38 rfl (HS.out _ _ _)) rfl ?_
  exact ⟨g, b1, m1, d1, rfl, HR1.out.keepT HX3.out (HQ1.out.notA (by decide)), HM1.out.trans HX3.out fun q hq => .inr (by omega)⟩
set_option maxRecDepth 100000 in
theorem cut_t1_6 {ad : Option Addr} {n cap : Nat} {l : List Ad} {w : World} (g : Ad) (h : RdA w (.slice ad n cap) l) (hl : l.length ≤ 2000) :
    Calls Tryz.prog 43 #[.bool true, .int .i64 1, .agg (recC 6 g (.slice ad n cap)).toArray] w (RetC w (false, 0, [])) := by
  have HM : Hid (Mod (fun _ => False) w ((w.alloc (.cells (recC 6 g (.slice ad n cap)).toArray 38 (0, 0))).alloc (.cells zR.toArray 38 (0, 0)))) := Lib.hid (((Mod.refl _ _).alloc _).alloc _)
  have HH : Hid (RdA ((w.alloc (.cells (recC 6 g (.slice ad n cap)).toArray 38 (0, 0))).alloc (.cells zR.toArray 38 (0, 0))) (.slice ad n cap) l) := Lib.hid (h.keep0 HM.out)
  have HS : Hid (∀ k g v, (Tryz.prog.info? 38).map (·.size) = some (recC k g v).length) := Lib.hid fun k g v => recC_sz k g v
  have HF2 : Hid (∀ k g v, 0 + (recC k g v).length ≤ (zR : List Value).length) := Lib.hid fun k g v => by rw [recC_len]; decide
  have hb := (Blk.new w 38 (recC 6 g (.slice ad n cap))).alloc (.cells zR.toArray 38 (0, 0))
  have c0 := hb.cell (j := 0) rfl
  have HB := Lib.hid hb
  have HR : Hid (Blk ((w.alloc (.cells (recC 6 g (.slice ad n cap)).toArray 38 (0, 0))).alloc (.cells zR.toArray 38 (0, 0))) (w.heap.size + 1) 38 zR) := Lib.hid (by
    have := Blk.new (w.alloc (.cells (recC 6 g (.slice ad n cap)).toArray 38 (0, 0))) 38 zR
    rwa [show (w.alloc (.cells (recC 6 g (.slice ad n cap)).toArray 38 (0, 0))).heap.size = w.heap.size + 1 by simp] at this)
  clear h hb
  go_enter Tryz.func43, Tryz.ntmps43
  go_wp2_with (first | (go_at_call 87; refine (last_s _ _).mono ?_; rintro e w1 ⟨rfl, rfl⟩; unfold lastV) | (refine wpList_store_blk rfl _ _ _ rfl (w.heap.size + 1) 0 38 zR zR rfl rfl HR.out (by simp) rcSz (by simp [Value.oneCell']) ?_; intro W3 HB4 HX3))
  refine bodyPost_ret (results_blk_tmp rfl _ (w.heap.size + 1) 38 zR rfl rfl (splice_all HB4.out rfl) Tryz.underlying38 rfl rcSz) rfl ?_
  exact ⟨⟨false, List.replicate 16 0, by simp, fun x hx => by rw [List.eq_of_mem_replicate hx]; omega⟩, none, 0, 0, rfl, RowA.nil _ _, HM.out.trans HX3.out fun q hq => .inr (by omega)⟩
set_option maxRecDepth 100000 in
theorem cut_t1_4 {ad : Option Addr} {n cap : Nat} {l : List Ad} {w : World} (g : Ad) (h : RdA w (.slice ad n cap) l) (hl : l.length ≤ 2000) :
    Calls Tryz.prog 43 #[.bool true, .int .i64 1, .agg (recC 4 g (.slice ad n cap)).toArray] w (RetC w (true, 4, [])) := by
  obtain ⟨gv, gb, gok⟩ := g
  obtain ⟨b0, b1, b2, b3, b4, b5, b6, b7, b8, b9, b10, b11, b12, b13, b14, b15, rfl⟩ : ∃ b0 b1 b2 b3 b4 b5 b6 b7 b8 b9 b10 b11 b12 b13 b14 b15 : Int, gb = [b0, b1, b2, b3, b4, b5, b6, b7, b8, b9, b10, b11, b12, b13, b14, b15] := by
    match gb, gok.1 with
    | [b0, b1, b2, b3, b4, b5, b6, b7, b8, b9, b10, b11, b12, b13, b14, b15], _ => exact ⟨b0, b1, b2, b3, b4, b5, b6, b7, b8, b9, b10, b11, b12, b13, b14, b15, rfl⟩
  obtain ⟨g, hg⟩ : ∃ g : Ad, g = ⟨gv, [b0, b1, b2, b3, b4, b5, b6, b7, b8, b9, b10, b11, b12, b13, b14, b15], gok⟩ := ⟨_, rfl⟩
  have HG : Hid (g.c = .bool gv :: [.int .u8 b0, .int .u8 b1, .int .u8 b2, .int .u8 b3, .int .u8 b4, .int .u8 b5, .int .u8 b6, .int .u8 b7, .int .u8 b8, .int .u8 b9, .int .u8 b10, .int .u8 b11, .int .u8 b12, .int .u8 b13, .int .u8 b14, .int .u8 b15]) := Lib.hid (by rw [hg]; rfl)
  rw [← hg]
  clear hg
  have HM : Hid (Mod (fun _ => False) w ((w.alloc (.cells (recC 4 g (.slice ad n cap)).toArray 38 (0, 0))).alloc (.cells zR.toArray 38 (0, 0)))) := Lib.hid (((Mod.refl _ _).alloc _).alloc _)
  have HH : Hid (RdA ((w.alloc (.cells (recC 4 g (.slice ad n cap)).toArray 38 (0, 0))).alloc (.cells zR.toArray 38 (0, 0))) (.slice ad n cap) l) := Lib.hid (h.keep0 HM.out)
  have HS : Hid (∀ k g v, (Tryz.prog.info? 38).map (·.size) = some (recC k g v).length) := Lib.hid fun k g v => recC_sz k g v
  have HF2 : Hid (∀ k g v, 0 + (recC k g v).length ≤ (zR : List Value).length) := Lib.hid fun k g v => by rw [recC_len]; decide
  have hb := (Blk.new w 38 (recC 4 g (.slice ad n cap))).alloc (.cells zR.toArray 38 (0, 0))
  have c0 := hb.cell (j := 0) rfl
  have HB := Lib.hid hb
  have HR : Hid (Blk ((w.alloc (.cells (recC 4 g (.slice ad n cap)).toArray 38 (0, 0))).alloc (.cells zR.toArray 38 (0, 0))) (w.heap.size + 1) 38 zR) := Lib.hid (by
    have := Blk.new (w.alloc (.cells (recC 4 g (.slice ad n cap)).toArray 38 (0, 0))) 38 zR
    rwa [show (w.alloc (.cells (recC 4 g (.slice ad n cap)).toArray 38 (0, 0))).heap.size = w.heap.size + 1 by simp] at this)
  clear h hb
  have HA : Hid (((recC 4 g (.slice ad n cap)).drop 1).take 17 = .bool gv :: [.int .u8 b0, .int .u8 b1, .int .u8 b2, .int .u8 b3, .int .u8 b4, .int .u8 b5, .int .u8 b6, .int .u8 b7, .int .u8 b8, .int .u8 b9, .int .u8 b10, .int .u8 b11, .int .u8 b12, .int .u8 b13, .int .u8 b14, .int .u8 b15]) := Lib.hid (by rw [← HG.out]; unfold recC; simp [g.c_len])
  go_enter Tryz.func43, Tryz.ntmps43
  go_wp2_with (first | (go_at_call 87; refine (last_s _ _).mono ?_; rintro e w1 ⟨rfl, rfl⟩; unfold lastV) | (refine wpList_load_blk rfl _ _ rfl w.heap.size 1 rfl 38 _ (.bool gv :: [.int .u8 b0, .int .u8 b1, .int .u8 b2, .int .u8 b3, .int .u8 b4, .int .u8 b5, .int .u8 b6, .int .u8 b7, .int .u8 b8, .int .u8 b9, .int .u8 b10, .int .u8 b11, .int .u8 b12, .int .u8 b13, .int .u8 b14, .int .u8 b15]) _ HB.out HA.out Tryz.underlying36 rfl adrSz ?_) | (refine wpList_store_blk rfl _ _ _ rfl (w.heap.size + 1) 0 38 zR [.int .i64 4, .bool gv, .int .u8 b0, .int .u8 b1, .int .u8 b2, .int .u8 b3, .int .u8 b4, .int .u8 b5, .int .u8 b6, .int .u8 b7, .int .u8 b8, .int .u8 b9, .int .u8 b10, .int .u8 b11, .int .u8 b12, .int .u8 b13, .int .u8 b14, .int .u8 b15, .slice none 0 0] rfl rfl HR.out (by simp) rcSz (by simp [Value.oneCell']) ?_; intro W3 HB4 HX3))
  refine bodyPost_ret (results_blk_tmp rfl _ (w.heap.size + 1) 38 [.int .i64 4, .bool gv, .int .u8 b0, .int .u8 b1, .int .u8 b2, .int .u8 b3, .int .u8 b4, .int .u8 b5, .int .u8 b6, .int .u8 b7, .int .u8 b8, .int .u8 b9, .int .u8 b10, .int .u8 b11, .int .u8 b12, .int .u8 b13, .int .u8 b14, .int .u8 b15, .slice none 0 0] rfl rfl (splice_all HB4.out rfl) Tryz.underlying38 rfl rcSz) rfl ?_
  exact ⟨g, none, 0, 0, by unfold recC; rw [HG.out]; rfl, RowA.nil _ _, HM.out.trans HX3.out fun q hq => .inr (by omega)⟩
set_option maxRecDepth 100000 in
theorem cut_t1_n {ad : Option Addr} {n cap : Nat} {l : List Ad} {w : World} (k : Int) (g : Ad) (h : RdA w (.slice ad n cap) l) (hl : l.length ≤ 2000) (h6 : ¬ k = 6) (h3 : ¬ k = 3) (h4 : ¬ k = 4) :
    Calls Tryz.prog 43 #[.bool true, .int .i64 1, .agg (recC k g (.slice ad n cap)).toArray] w (RetC w (true, k, l)) := by
  have HM : Hid (Mod (fun _ => False) w ((w.alloc (.cells (recC k g (.slice ad n cap)).toArray 38 (0, 0))).alloc (.cells zR.toArray 38 (0, 0)))) := Lib.hid (((Mod.refl _ _).alloc _).alloc _)
  have HH : Hid (RdA ((w.alloc (.cells (recC k g (.slice ad n cap)).toArray 38 (0, 0))).alloc (.cells zR.toArray 38 (0, 0))) (.slice ad n cap) l) := Lib.hid (h.keep0 HM.out)
  have HS : Hid (∀ k g v, (Tryz.prog.info? 38).map (·.size) = some (recC k g v).length) := Lib.hid fun k g v => recC_sz k g v
  have HF2 : Hid (∀ k g v, 0 + (recC k g v).length ≤ (zR : List Value).length) := Lib.hid fun k g v => by rw [recC_len]; decide
  have hb := (Blk.new w 38 (recC k g (.slice ad n cap))).alloc (.cells zR.toArray 38 (0, 0))
  have c0 := hb.cell (j := 0) rfl
  have HB := Lib.hid hb
  have HR : Hid (Blk ((w.alloc (.cells (recC k g (.slice ad n cap)).toArray 38 (0, 0))).alloc (.cells zR.toArray 38 (0, 0))) (w.heap.size + 1) 38 zR) := Lib.hid (by
    have := Blk.new (w.alloc (.cells (recC k g (.slice ad n cap)).toArray 38 (0, 0))) 38 zR
    rwa [show (w.alloc (.cells (recC k g (.slice ad n cap)).toArray 38 (0, 0))).heap.size = w.heap.size + 1 by simp] at this)
  clear h hb
  go_enter Tryz.func43, Tryz.ntmps43
  go_wp2_with (first | (go_at_call 87; refine (last_s _ _).mono ?_; rintro e w1 ⟨rfl, rfl⟩; unfold lastV) | (refine wpList_load_blk rfl _ _ rfl w.heap.size 0 rfl 38 _ (recC k g (.slice ad n cap)) _ HB.out (List.take_of_length_le (Nat.le_refl _)) Tryz.underlying38 rfl (HS.out _ _ _) ?_) | (go_at_call 88; refine (cown_s k g HH.out hl).mono ?_; rintro e W1 ⟨b1, m1, d1, rfl, hr1, hm1⟩; have HR1 := Lib.hid hr1; have HM1 : Hid (Mod (fun _ => False) w W1) := Lib.hid (HM.out.trans hm1 fun _ f => f.elim); have HQ1 := Lib.hid (HR.out.keep hm1 fun f => f); clear hr1 hm1) | (refine wpList_store_blk rfl _ _ _ rfl (w.heap.size + 1) 0 38 zR (recC k g (.slice b1 m1 d1)) rfl rfl HQ1.out (HF2.out _ _ _) (HS.out _ _ _) (recC_one _ _ _ rfl) ?_; intro W3 HB4 HX3))
  refine bodyPost_ret (results_blk_tmp rfl _ (w.heap.size + 1) 38 (recC k g (.slice b1 m1 d1)) rfl rfl (splice_all HB4.out (by rw [recC_len]; rfl)) Tryz.underlying38 rfl (HS.out _ _ _)) rfl ?_
  exact ⟨g, b1, m1, d1, rfl, HR1.out.keepT HX3.out (HQ1.out.notA (by decide)), HM1.out.trans HX3.out fun q hq => .inr (by omega)⟩
set_option maxRecDepth 100000 in
theorem cut_t1_3 {ad : Option Addr} {n cap : Nat} {l : List Ad} {w : World} (k : Int) (g : Ad) (h : RdA w (.slice ad n cap) l) (hl : l.length ≤ 2000)  :
    Calls Tryz.prog 43 #[.bool true, .int .i64 1, .agg (recC 3 g (.slice ad n cap)).toArray] w (RetC w (true, 3, l)) := by
  have HM : Hid (Mod (fun _ => False) w ((w.alloc (.cells (recC 3 g (.slice ad n cap)).toArray 38 (0, 0))).alloc (.cells zR.toArray 38 (0, 0)))) := Lib.hid (((Mod.refl _ _).alloc _).alloc _)
  have HH : Hid (RdA ((w.alloc (.cells (recC 3 g (.slice ad n cap)).toArray 38 (0, 0))).alloc (.cells zR.toArray 38 (0, 0))) (.slice ad n cap) l) := Lib.hid (h.keep0 HM.out)
  have HS : Hid (∀ k g v, (Tryz.prog.info? 38).map (·.size) = some (recC k g v).length) := Lib.hid fun k g v => recC_sz k g v
  have HF2 : Hid (∀ k g v, 0 + (recC k g v).length ≤ (zR : List Value).length) := Lib.hid fun k g v => by rw [recC_len]; decide
  have hb := (Blk.new w 38 (recC 3 g (.slice ad n cap))).alloc (.cells zR.toArray 38 (0, 0))
  have c0 := hb.cell (j := 0) rfl
  have HB := Lib.hid hb
  have HR : Hid (Blk ((w.alloc (.cells (recC 3 g (.slice ad n cap)).toArray 38 (0, 0))).alloc (.cells zR.toArray 38 (0, 0))) (w.heap.size + 1) 38 zR) := Lib.hid (by
    have := Blk.new (w.alloc (.cells (recC 3 g (.slice ad n cap)).toArray 38 (0, 0))) 38 zR
    rwa [show (w.alloc (.cells (recC 3 g (.slice ad n cap)).toArray 38 (0, 0))).heap.size = w.heap.size + 1 by simp] at this)
  clear h hb
  go_enter Tryz.func43, Tryz.ntmps43
  go_wp2_with (first | (go_at_call 87; refine (last_s _ _).mono ?_; rintro e w1 ⟨rfl, rfl⟩; unfold lastV) | (refine wpList_load_blk rfl _ _ rfl w.heap.size 0 rfl 38 _ (recC 3 g (.slice ad n cap)) _ HB.out (List.take_of_length_le (Nat.le_refl _)) Tryz.underlying38 rfl (HS.out _ _ _) ?_) | (go_at_call 88; refine (cown_s 3 g HH.out hl).mono ?_; rintro e W1 ⟨b1, m1, d1, rfl, hr1, hm1⟩; have HR1 := Lib.hid hr1; have HM1 : Hid (Mod (fun _ => False) w W1) := Lib.hid (HM.out.trans hm1 fun _ f => f.elim); have HQ1 := Lib.hid (HR.out.keep hm1 fun f => f); clear hr1 hm1) | (refine wpList_store_blk rfl _ _ _ rfl (w.heap.size + 1) 0 38 zR (recC 3 g (.slice b1 m1 d1)) rfl rfl HQ1.out (HF2.out _ _ _) (HS.out _ _ _) (recC_one _ _ _ rfl) ?_; intro W3 HB4 HX3))
  refine bodyPost_ret (results_blk_tmp rfl _ (w.heap.size + 1) 38 (recC 3 g (.slice b1 m1 d1)) rfl rfl (splice_all HB4.out (by rw [recC_len]; rfl)) Tryz.underlying38 rfl (HS.out _ _ _)) rfl ?_
  exact ⟨g, b1, m1, d1, rfl, HR1.out.keepT HX3.out (HQ1.out.notA (by decide)), HM1.out.trans HX3.out fun q hq => .inr (by omega)⟩
set_option maxRecDepth 100000 in
theorem cut_f1_6 {ad : Option Addr} {n cap : Nat} {l : List Ad} {w : World} (g : Ad) (h : RdA w (.slice ad n cap) l) (hl : l.length ≤ 2000) :
    Calls Tryz.prog 43 #[.bool false, .int .i64 1, .agg (recC 6 g (.slice ad n cap)).toArray] w (RetC w (false, 0, [])) := by
  have HM : Hid (Mod (fun _ => False) w ((w.alloc (.cells (recC 6 g (.slice ad n cap)).toArray 38 (0, 0))).alloc (.cells zR.toArray 38 (0, 0)))) := Lib.hid (((Mod.refl _ _).alloc _).alloc _)
  have HH : Hid (RdA ((w.alloc (.cells (recC 6 g (.slice ad n cap)).toArray 38 (0, 0))).alloc (.cells zR.toArray 38 (0, 0))) (.slice ad n cap) l) := Lib.hid (h.keep0 HM.out)
  have HS : Hid (∀ k g v, (Tryz.prog.info? 38).map (·.size) = some (recC k g v).length) := Lib.hid fun k g v => recC_sz k g v
  have HF2 : Hid (∀ k g v, 0 + (recC k g v).length ≤ (zR : List Value).length) := Lib.hid fun k g v => by rw [recC_len]; decide
  have hb := (Blk.new w 38 (recC 6 g (.slice ad n cap))).alloc (.cells zR.toArray 38 (0, 0))
  have c0 := hb.cell (j := 0) rfl
  have HB := Lib.hid hb
  have HR : Hid (Blk ((w.alloc (.cells (recC 6 g (.slice ad n cap)).toArray 38 (0, 0))).alloc (.cells zR.toArray 38 (0, 0))) (w.heap.size + 1) 38 zR) := Lib.hid (by
    have := Blk.new (w.alloc (.cells (recC 6 g (.slice ad n cap)).toArray 38 (0, 0))) 38 zR
    rwa [show (w.alloc (.cells (recC 6 g (.slice ad n cap)).toArray 38 (0, 0))).heap.size = w.heap.size + 1 by simp] at this)
  clear h hb
  go_enter Tryz.func43, Tryz.ntmps43
  go_wp2_with (first | (go_at_call 87; refine (last_s _ _).mono ?_; rintro e w1 ⟨rfl, rfl⟩; unfold lastV) | (refine wpList_store_blk rfl _ _ _ rfl (w.heap.size + 1) 0 38 zR zR rfl rfl HR.out (by simp) rcSz (by simp [Value.oneCell']) ?_; intro W3 HB4 HX3))
  refine bodyPost_ret (results_blk_tmp rfl _ (w.heap.size + 1) 38 zR rfl rfl (splice_all HB4.out rfl) Tryz.underlying38 rfl rcSz) rfl ?_
  exact ⟨⟨false, List.replicate 16 0, by simp, fun x hx => by rw [List.eq_of_mem_replicate hx]; omega⟩, none, 0, 0, rfl, RowA.nil _ _, HM.out.trans HX3.out fun q hq => .inr (by omega)⟩
set_option maxRecDepth 100000 in
theorem cut_f1_4 {ad : Option Addr} {n cap : Nat} {l : List Ad} {w : World} (g : Ad) (h : RdA w (.slice ad n cap) l) (hl : l.length ≤ 2000) :
    Calls Tryz.prog 43 #[.bool false, .int .i64 1, .agg (recC 4 g (.slice ad n cap)).toArray] w (RetC w (true, 4, [])) := by
  obtain ⟨gv, gb, gok⟩ := g
  obtain ⟨b0, b1, b2, b3, b4, b5, b6, b7, b8, b9, b10, b11, b12, b13, b14, b15, rfl⟩ : ∃ b0 b1 b2 b3 b4 b5 b6 b7 b8 b9 b10 b11 b12 b13 b14 b15 : Int, gb = [b0, b1, b2, b3, b4, b5, b6, b7, b8, b9, b10, b11, b12, b13, b14, b15] := by
    match gb, gok.1 with
    | [b0, b1, b2, b3, b4, b5, b6, b7, b8, b9, b10, b11, b12, b13, b14, b15], _ => exact ⟨b0, b1, b2, b3, b4, b5, b6, b7, b8, b9, b10, b11, b12, b13, b14, b15, rfl⟩
  obtain ⟨g, hg⟩ : ∃ g : Ad, g = ⟨gv, [b0, b1, b2, b3, b4, b5, b6, b7, b8, b9, b10, b11, b12, b13, b14, b15], gok⟩ := ⟨_, rfl⟩
  have HG : Hid (g.c = .bool gv :: [.int .u8 b0, .int .u8 b1, .int .u8 b2, .int .u8 b3, .int .u8 b4, .int .u8 b5, .int .u8 b6, .int .u8 b7, .int .u8 b8, .int .u8 b9, .int .u8 b10, .int .u8 b11, .int .u8 b12, .int .u8 b13, .int .u8 b14, .int .u8 b15]) := Lib.hid (by rw [hg]; rfl)
  rw [← hg]
  clear hg
  have HM : Hid (Mod (fun _ => False) w ((w.alloc (.cells (recC 4 g (.slice ad n cap)).toArray 38 (0, 0))).alloc (.cells zR.toArray 38 (0, 0)))) := Lib.hid (((Mod.refl _ _).alloc _).alloc _)
  have HH : Hid (RdA ((w.alloc (.cells (recC 4 g (.slice ad n cap)).toArray 38 (0, 0))).alloc (.cells zR.toArray 38 (0, 0))) (.slice ad n cap) l) := Lib.hid (h.keep0 HM.out)
  have HS : Hid (∀ k g v, (Tryz.prog.info? 38).map (·.size) = some (recC k g v).length) := Lib.hid fun k g v => recC_sz k g v
  have HF2 : Hid (∀ k g v, 0 + (recC k g v).length ≤ (zR : List Value).length) := Lib.hid fun k g v => by rw [recC_len]; decide
  have hb := (Blk.new w 38 (recC 4 g (.slice ad n cap))).alloc (.cells zR.toArray 38 (0, 0))
  have c0 := hb.cell (j := 0) rfl
  have HB := Lib.hid hb
  have HR : Hid (Blk ((w.alloc (.cells (recC 4 g (.slice ad n cap)).toArray 38 (0, 0))).alloc (.cells zR.toArray 38 (0, 0))) (w.heap.size + 1) 38 zR) := Lib.hid (by
    have := Blk.new (w.alloc (.cells (recC 4 g (.slice ad n cap)).toArray 38 (0, 0))) 38 zR
    rwa [show (w.alloc (.cells (recC 4 g (.slice ad n cap)).toArray 38 (0, 0))).heap.size = w.heap.size + 1 by simp] at this)
  clear h hb
  have HA : Hid (((recC 4 g (.slice ad n cap)).drop 1).take 17 = .bool gv :: [.int .u8 b0, .int .u8 b1, .int .u8 b2, .int .u8 b3, .int .u8 b4, .int .u8 b5, .int .u8 b6, .int .u8 b7, .int .u8 b8, .int .u8 b9, .int .u8 b10, .int .u8 b11, .int .u8 b12, .int .u8 b13, .int .u8 b14, .int .u8 b15]) := Lib.hid (by rw [← HG.out]; unfold recC; simp [g.c_len])
  go_enter Tryz.func43, Tryz.ntmps43
  go_wp2_with (first | (go_at_call 87; refine (last_s _ _).mono ?_; rintro e w1 ⟨rfl, rfl⟩; unfold lastV) | (refine wpList_load_blk rfl _ _ rfl w.heap.size 1 rfl 38 _ (.bool gv :: [.int .u8 b0, .int .u8 b1, .int .u8 b2, .int .u8 b3, .int .u8 b4, .int .u8 b5, .int .u8 b6, .int .u8 b7, .int .u8 b8, .int .u8 b9, .int .u8 b10, .int .u8 b11, .int .u8 b12, .int .u8 b13, .int .u8 b14, .int .u8 b15]) _ HB.out HA.out Tryz.underlying36 rfl adrSz ?_) | (refine wpList_store_blk rfl _ _ _ rfl (w.heap.size + 1) 0 38 zR [.int .i64 4, .bool gv, .int .u8 b0, .int .u8 b1, .int .u8 b2, .int .u8 b3, .int .u8 b4, .int .u8 b5, .int .u8 b6, .int .u8 b7, .int .u8 b8, .int .u8 b9, .int .u8 b10, .int .u8 b11, .int .u8 b12, .int .u8 b13, .int .u8 b14, .int .u8 b15, .slice none 0 0] rfl rfl HR.out (by simp) rcSz (by simp [Value.oneCell']) ?_; intro W3 HB4 HX3))
  refine bodyPost_ret (results_blk_tmp rfl _ (w.heap.size + 1) 38 [.int .i64 4, .bool gv, .int .u8 b0, .int .u8 b1, .int .u8 b2, .int .u8 b3, .int .u8 b4, .int .u8 b5, .int .u8 b6, .int .u8 b7, .int .u8 b8, .int .u8 b9, .int .u8 b10, .int .u8 b11, .int .u8 b12, .int .u8 b13, .int .u8 b14, .int .u8 b15, .slice none 0 0] rfl rfl (splice_all HB4.out rfl) Tryz.underlying38 rfl rcSz) rfl ?_
  exact ⟨g, none, 0, 0, by unfold recC; rw [HG.out]; rfl, RowA.nil _ _, HM.out.trans HX3.out fun q hq => .inr (by omega)⟩
set_option maxRecDepth 100000 in
theorem cut_f1_n {ad : Option Addr} {n cap : Nat} {l : List Ad} {w : World} (k : Int) (g : Ad) (h : RdA w (.slice ad n cap) l) (hl : l.length ≤ 2000) (h6 : ¬ k = 6) (h3 : ¬ k = 3) (h4 : ¬ k = 4) :
    Calls Tryz.prog 43 #[.bool false, .int .i64 1, .agg (recC k g (.slice ad n cap)).toArray] w (RetC w (true, k, l)) := by
  have HM : Hid (Mod (fun _ => False) w ((w.alloc (.cells (recC k g (.slice ad n cap)).toArray 38 (0, 0))).alloc (.cells zR.toArray 38 (0, 0)))) := Lib.hid (((Mod.refl _ _).alloc _).alloc _)
  have HH : Hid (RdA ((w.alloc (.cells (recC k g (.slice ad n cap)).toArray 38 (0, 0))).alloc (.cells zR.toArray 38 (0, 0))) (.slice ad n cap) l) := Lib.hid (h.keep0 HM.out)
  have HS : Hid (∀ k g v, (Tryz.prog.info? 38).map (·.size) = some (recC k g v).length) := Lib.hid fun k g v => recC_sz k g v
  have HF2 : Hid (∀ k g v, 0 + (recC k g v).length ≤ (zR : List Value).length) := Lib.hid fun k g v => by rw [recC_len]; decide
  have hb := (Blk.new w 38 (recC k g (.slice ad n cap))).alloc (.cells zR.toArray 38 (0, 0))
  have c0 := hb.cell (j := 0) rfl
  have HB := Lib.hid hb
  have HR : Hid (Blk ((w.alloc (.cells (recC k g (.slice ad n cap)).toArray 38 (0, 0))).alloc (.cells zR.toArray 38 (0, 0))) (w.heap.size + 1) 38 zR) := Lib.hid (by
    have := Blk.new (w.alloc (.cells (recC k g (.slice ad n cap)).toArray 38 (0, 0))) 38 zR
    rwa [show (w.alloc (.cells (recC k g (.slice ad n cap)).toArray 38 (0, 0))).heap.size = w.heap.size + 1 by simp] at this)
  clear h hb
  go_enter Tryz.func43, Tryz.ntmps43
  go_wp2_with (first | (go_at_call 87; refine (last_s _ _).mono ?_; rintro e w1 ⟨rfl, rfl⟩; unfold lastV) | (refine wpList_load_blk rfl _ _ rfl w.heap.size 0 rfl 38 _ (recC k g (.slice ad n cap)) _ HB.out (List.take_of_length_le (Nat.le_refl _)) Tryz.underlying38 rfl (HS.out _ _ _) ?_) | (go_at_call 88; refine (cown_s k g HH.out hl).mono ?_; rintro e W1 ⟨b1, m1, d1, rfl, hr1, hm1⟩; have HR1 := Lib.hid hr1; have HM1 : Hid (Mod (fun _ => False) w W1) := Lib.hid (HM.out.trans hm1 fun _ f => f.elim); have HQ1 := Lib.hid (HR.out.keep hm1 fun f => f); clear hr1 hm1) | (refine wpList_store_blk rfl _ _ _ rfl (w.heap.size + 1) 0 38 zR (recC k g (.slice b1 m1 d1)) rfl rfl HQ1.out (HF2.out _ _ _) (HS.out _ _ _) (recC_one _ _ _ rfl) ?_; intro W3 HB4 HX3))
  refine bodyPost_ret (results_blk_tmp rfl _ (w.heap.size + 1) 38 (recC k g (.slice b1 m1 d1)) rfl rfl (splice_all HB4.out (by rw [recC_len]; rfl)) Tryz.underlying38 rfl (HS.out _ _ _)) rfl ?_
  exact ⟨g, b1, m1, d1, rfl, HR1.out.keepT HX3.out (HQ1.out.notA (by decide)), HM1.out.trans HX3.out fun q hq => .inr (by omega)⟩
set_option maxRecDepth 100000 in
theorem cut_f1_3 {ad : Option Addr} {n cap : Nat} {l : List Ad} {w : World} (g : Ad) (h : RdA w (.slice ad n cap) l) (hl : l.length ≤ 2000) :
    Calls Tryz.prog 43 #[.bool false, .int .i64 1, .agg (recC 3 g (.slice ad n cap)).toArray] w (RetC w (false, 0, [])) := by
  have HM : Hid (Mod (fun _ => False) w ((w.alloc (.cells (recC 3 g (.slice ad n cap)).toArray 38 (0, 0))).alloc (.cells zR.toArray 38 (0, 0)))) := Lib.hid (((Mod.refl _ _).alloc _).alloc _)
  have HH : Hid (RdA ((w.alloc (.cells (recC 3 g (.slice ad n cap)).toArray 38 (0, 0))).alloc (.cells zR.toArray 38 (0, 0))) (.slice ad n cap) l) := Lib.hid (h.keep0 HM.out)
  have HS : Hid (∀ k g v, (Tryz.prog.info? 38).map (·.size) = some (recC k g v).length) := Lib.hid fun k g v => recC_sz k g v
  have HF2 : Hid (∀ k g v, 0 + (recC k g v).length ≤ (zR : List Value).length) := Lib.hid fun k g v => by rw [recC_len]; decide
  have hb := (Blk.new w 38 (recC 3 g (.slice ad n cap))).alloc (.cells zR.toArray 38 (0, 0))
  have c0 := hb.cell (j := 0) rfl
  have HB := Lib.hid hb
  have HR : Hid (Blk ((w.alloc (.cells (recC 3 g (.slice ad n cap)).toArray 38 (0, 0))).alloc (.cells zR.toArray 38 (0, 0))) (w.heap.size + 1) 38 zR) := Lib.hid (by
    have := Blk.new (w.alloc (.cells (recC 3 g (.slice ad n cap)).toArray 38 (0, 0))) 38 zR
    rwa [show (w.alloc (.cells (recC 3 g (.slice ad n cap)).toArray 38 (0, 0))).heap.size = w.heap.size + 1 by simp] at this)
  clear h hb
  go_enter Tryz.func43, Tryz.ntmps43
  go_wp2_with (first | (go_at_call 87; refine (last_s _ _).mono ?_; rintro e w1 ⟨rfl, rfl⟩; unfold lastV) | (refine wpList_store_blk rfl _ _ _ rfl (w.heap.size + 1) 0 38 zR zR rfl rfl HR.out (by simp) rcSz (by simp [Value.oneCell']) ?_; intro W3 HB4 HX3))
  refine bodyPost_ret (results_blk_tmp rfl _ (w.heap.size + 1) 38 zR rfl rfl (splice_all HB4.out rfl) Tryz.underlying38 rfl rcSz) rfl ?_
  exact ⟨⟨false, List.replicate 16 0, by simp, fun x hx => by rw [List.eq_of_mem_replicate hx]; omega⟩, none, 0, 0, rfl, RowA.nil _ _, HM.out.trans HX3.out fun q hq => .inr (by omega)⟩
set_option maxRecDepth 100000 in
theorem cut_f2_6 {ad : Option Addr} {n cap : Nat} {l : List Ad} {w : World} (g : Ad) (h : RdA w (.slice ad n cap) l) (hl : l.length ≤ 2000) :
    Calls Tryz.prog 43 #[.bool false, .int .i64 2, .agg (recC 6 g (.slice ad n cap)).toArray] w (RetC w (false, 0, [])) := by
  have HM : Hid (Mod (fun _ => False) w ((w.alloc (.cells (recC 6 g (.slice ad n cap)).toArray 38 (0, 0))).alloc (.cells zR.toArray 38 (0, 0)))) := Lib.hid (((Mod.refl _ _).alloc _).alloc _)
  have HH : Hid (RdA ((w.alloc (.cells (recC 6 g (.slice ad n cap)).toArray 38 (0, 0))).alloc (.cells zR.toArray 38 (0, 0))) (.slice ad n cap) l) := Lib.hid (h.keep0 HM.out)
  have HS : Hid (∀ k g v, (Tryz.prog.info? 38).map (·.size) = some (recC k g v).length) := Lib.hid fun k g v => recC_sz k g v
  have HF2 : Hid (∀ k g v, 0 + (recC k g v).length ≤ (zR : List Value).length) := Lib.hid fun k g v => by rw [recC_len]; decide
  have hb := (Blk.new w 38 (recC 6 g (.slice ad n cap))).alloc (.cells zR.toArray 38 (0, 0))
  have c0 := hb.cell (j := 0) rfl
  have HB := Lib.hid hb
  have HR : Hid (Blk ((w.alloc (.cells (recC 6 g (.slice ad n cap)).toArray 38 (0, 0))).alloc (.cells zR.toArray 38 (0, 0))) (w.heap.size + 1) 38 zR) := Lib.hid (by
    have := Blk.new (w.alloc (.cells (recC 6 g (.slice ad n cap)).toArray 38 (0, 0))) 38 zR
    rwa [show (w.alloc (.cells (recC 6 g (.slice ad n cap)).toArray 38 (0, 0))).heap.size = w.heap.size + 1 by simp] at this)
  clear h hb
  go_enter Tryz.func43, Tryz.ntmps43
  go_wp2_with (first | (go_at_call 87; refine (last_s _ _).mono ?_; rintro e w1 ⟨rfl, rfl⟩; unfold lastV) | (refine wpList_store_blk rfl _ _ _ rfl (w.heap.size + 1) 0 38 zR zR rfl rfl HR.out (by simp) rcSz (by simp [Value.oneCell']) ?_; intro W3 HB4 HX3))
  refine bodyPost_ret (results_blk_tmp rfl _ (w.heap.size + 1) 38 zR rfl rfl (splice_all HB4.out rfl) Tryz.underlying38 rfl rcSz) rfl ?_
  exact ⟨⟨false, List.replicate 16 0, by simp, fun x hx => by rw [List.eq_of_mem_replicate hx]; omega⟩, none, 0, 0, rfl, RowA.nil _ _, HM.out.trans HX3.out fun q hq => .inr (by omega)⟩
set_option maxRecDepth 100000 in
theorem cut_f2_4 {ad : Option Addr} {n cap : Nat} {l : List Ad} {w : World} (g : Ad) (h : RdA w (.slice ad n cap) l) (hl : l.length ≤ 2000) :
    Calls Tryz.prog 43 #[.bool false, .int .i64 2, .agg (recC 4 g (.slice ad n cap)).toArray] w (RetC w (true, 4, [])) := by
  obtain ⟨gv, gb, gok⟩ := g
  obtain ⟨b0, b1, b2, b3, b4, b5, b6, b7, b8, b9, b10, b11, b12, b13, b14, b15, rfl⟩ : ∃ b0 b1 b2 b3 b4 b5 b6 b7 b8 b9 b10 b11 b12 b13 b14 b15 : Int, gb = [b0, b1, b2, b3, b4, b5, b6, b7, b8, b9, b10, b11, b12, b13, b14, b15] := by
    match gb, gok.1 with
    | [b0, b1, b2, b3, b4, b5, b6, b7, b8, b9, b10, b11, b12, b13, b14, b15], _ => exact ⟨b0, b1, b2, b3, b4, b5, b6, b7, b8, b9, b10, b11, b12, b13, b14, b15, rfl⟩
  obtain ⟨g, hg⟩ : ∃ g : Ad, g = ⟨gv, [b0, b1, b2, b3, b4, b5, b6, b7, b8, b9, b10, b11, b12, b13, b14, b15], gok⟩ := ⟨_, rfl⟩
  have HG : Hid (g.c = .bool gv :: [.int .u8 b0, .int .u8 b1, .int .u8 b2, .int .u8 b3, .int .u8 b4, .int .u8 b5, .int .u8 b6, .int .u8 b7, .int .u8 b8, .int .u8 b9, .int .u8 b10, .int .u8 b11, .int .u8 b12, .int .u8 b13, .int .u8 b14, .int .u8 b15]) := Lib.hid (by rw [hg]; rfl)
  rw [← hg]
  clear hg
  have HM : Hid (Mod (fun _ => False) w ((w.alloc (.cells (recC 4 g (.slice ad n cap)).toArray 38 (0, 0))).alloc (.cells zR.toArray 38 (0, 0)))) := Lib.hid (((Mod.refl _ _).alloc _).alloc _)
  have HH : Hid (RdA ((w.alloc (.cells (recC 4 g (.slice ad n cap)).toArray 38 (0, 0))).alloc (.cells zR.toArray 38 (0, 0))) (.slice ad n cap) l) := Lib.hid (h.keep0 HM.out)
  have HS : Hid (∀ k g v, (Tryz.prog.info? 38).map (·.size) = some (recC k g v).length) := Lib.hid fun k g v => recC_sz k g v
  have HF2 : Hid (∀ k g v, 0 + (recC k g v).length ≤ (zR : List Value).length) := Lib.hid fun k g v => by rw [recC_len]; decide
  have hb := (Blk.new w 38 (recC 4 g (.slice ad n cap))).alloc (.cells zR.toArray 38 (0, 0))
  have c0 := hb.cell (j := 0) rfl
  have HB := Lib.hid hb
  have HR : Hid (Blk ((w.alloc (.cells (recC 4 g (.slice ad n cap)).toArray 38 (0, 0))).alloc (.cells zR.toArray 38 (0, 0))) (w.heap.size + 1) 38 zR) := Lib.hid (by
    have := Blk.new (w.alloc (.cells (recC 4 g (.slice ad n cap)).toArray 38 (0, 0))) 38 zR
    rwa [show (w.alloc (.cells (recC 4 g (.slice ad n cap)).toArray 38 (0, 0))).heap.size = w.heap.size + 1 by simp] at this)
  clear h hb
  have HA : Hid (((recC 4 g (.slice ad n cap)).drop 1).take 17 = .bool gv :: [.int .u8 b0, .int .u8 b1, .int .u8 b2, .int .u8 b3, .int .u8 b4, .int .u8 b5, .int .u8 b6, .int .u8 b7, .int .u8 b8, .int .u8 b9, .int .u8 b10, .int .u8 b11, .int .u8 b12, .int .u8 b13, .int .u8 b14, .int .u8 b15]) := Lib.hid (by rw [← HG.out]; unfold recC; simp [g.c_len])
  go_enter Tryz.func43, Tryz.ntmps43
  go_wp2_with (first | (go_at_call 87; refine (last_s _ _).mono ?_; rintro e w1 ⟨rfl, rfl⟩; unfold lastV) | (refine wpList_load_blk rfl _ _ rfl w.heap.size 1 rfl 38 _ (.bool gv :: [.int .u8 b0, .int .u8 b1, .int .u8 b2, .int .u8 b3, .int .u8 b4, .int .u8 b5, .int .u8 b6, .int .u8 b7, .int .u8 b8, .int .u8 b9, .int .u8 b10, .int .u8 b11, .int .u8 b12, .int .u8 b13, .int .u8 b14, .int .u8 b15]) _ HB.out HA.out Tryz.underlying36 rfl adrSz ?_) | (refine wpList_store_blk rfl _ _ _ rfl (w.heap.size + 1) 0 38 zR [.int .i64 4, .bool gv, .int .u8 b0, .int .u8 b1, .int .u8 b2, .int .u8 b3, .int .u8 b4, .int .u8 b5, .int .u8 b6, .int .u8 b7, .int .u8 b8, .int .u8 b9, .int .u8 b10, .int .u8 b11, .int .u8 b12, .int .u8 b13, .int .u8 b14, .int .u8 b15, .slice none 0 0] rfl rfl HR.out (by simp) rcSz (by simp [Value.oneCell']) ?_; intro W3 HB4 HX3))
  refine bodyPost_ret (results_blk_tmp rfl _ (w.heap.size + 1) 38 [.int .i64 4, .bool gv, .int .u8 b0, .int .u8 b1, .int .u8 b2, .int .u8 b3, .int .u8 b4, .int .u8 b5, .int .u8 b6, .int .u8 b7, .int .u8 b8, .int .u8 b9, .int .u8 b10, .int .u8 b11, .int .u8 b12, .int .u8 b13, .int .u8 b14, .int .u8 b15, .slice none 0 0] rfl rfl (splice_all HB4.out rfl) Tryz.underlying38 rfl rcSz) rfl ?_
  exact ⟨g, none, 0, 0, by unfold recC; rw [HG.out]; rfl, RowA.nil _ _, HM.out.trans HX3.out fun q hq => .inr (by omega)⟩
set_option maxRecDepth 100000 in
theorem cut_f2_n {ad : Option Addr} {n cap : Nat} {l : List Ad} {w : World} (k : Int) (g : Ad) (h : RdA w (.slice ad n cap) l) (hl : l.length ≤ 2000) (h6 : ¬ k = 6) (h3 : ¬ k = 3) (h4 : ¬ k = 4) :
    Calls Tryz.prog 43 #[.bool false, .int .i64 2, .agg (recC k g (.slice ad n cap)).toArray] w (RetC w (true, k, l)) := by
  have HM : Hid (Mod (fun _ => False) w ((w.alloc (.cells (recC k g (.slice ad n cap)).toArray 38 (0, 0))).alloc (.cells zR.toArray 38 (0, 0)))) := Lib.hid (((Mod.refl _ _).alloc _).alloc _)
  have HH : Hid (RdA ((w.alloc (.cells (recC k g (.slice ad n cap)).toArray 38 (0, 0))).alloc (.cells zR.toArray 38 (0, 0))) (.slice ad n cap) l) := Lib.hid (h.keep0 HM.out)
  have HS : Hid (∀ k g v, (Tryz.prog.info? 38).map (·.size) = some (recC k g v).length) := Lib.hid fun k g v => recC_sz k g v
  have HF2 : Hid (∀ k g v, 0 + (recC k g v).length ≤ (zR : List Value).length) := Lib.hid fun k g v => by rw [recC_len]; decide
  have hb := (Blk.new w 38 (recC k g (.slice ad n cap))).alloc (.cells zR.toArray 38 (0, 0))
  have c0 := hb.cell (j := 0) rfl
  have HB := Lib.hid hb
  have HR : Hid (Blk ((w.alloc (.cells (recC k g (.slice ad n cap)).toArray 38 (0, 0))).alloc (.cells zR.toArray 38 (0, 0))) (w.heap.size + 1) 38 zR) := Lib.hid (by
    have := Blk.new (w.alloc (.cells (recC k g (.slice ad n cap)).toArray 38 (0, 0))) 38 zR
    rwa [show (w.alloc (.cells (recC k g (.slice ad n cap)).toArray 38 (0, 0))).heap.size = w.heap.size + 1 by simp] at this)
  clear h hb
  go_enter Tryz.func43, Tryz.ntmps43
  go_wp2_with (first | (go_at_call 87; refine (last_s _ _).mono ?_; rintro e w1 ⟨rfl, rfl⟩; unfold lastV) | (refine wpList_load_blk rfl _ _ rfl w.heap.size 0 rfl 38 _ (recC k g (.slice ad n cap)) _ HB.out (List.take_of_length_le (Nat.le_refl _)) Tryz.underlying38 rfl (HS.out _ _ _) ?_) | (go_at_call 88; refine (cown_s k g HH.out hl).mono ?_; rintro e W1 ⟨b1, m1, d1, rfl, hr1, hm1⟩; have HR1 := Lib.hid hr1; have HM1 : Hid (Mod (fun _ => False) w W1) := Lib.hid (HM.out.trans hm1 fun _ f => f.elim); have HQ1 := Lib.hid (HR.out.keep hm1 fun f => f); clear hr1 hm1) | (refine wpList_store_blk rfl _ _ _ rfl (w.heap.size + 1) 0 38 zR (recC k g (.slice b1 m1 d1)) rfl rfl HQ1.out (HF2.out _ _ _) (HS.out _ _ _) (recC_one _ _ _ rfl) ?_; intro W3 HB4 HX3))
  refine bodyPost_ret (results_blk_tmp rfl _ (w.heap.size + 1) 38 (recC k g (.slice b1 m1 d1)) rfl rfl (splice_all HB4.out (by rw [recC_len]; rfl)) Tryz.underlying38 rfl (HS.out _ _ _)) rfl ?_
  exact ⟨g, b1, m1, d1, rfl, HR1.out.keepT HX3.out (HQ1.out.notA (by decide)), HM1.out.trans HX3.out fun q hq => .inr (by omega)⟩
set_option maxRecDepth 100000 in
theorem cut_f2_3 {ad : Option Addr} {n cap : Nat} {l : List Ad} {w : World} (k : Int) (g : Ad) (h : RdA w (.slice ad n cap) l) (hl : l.length ≤ 2000)  :
    Calls Tryz.prog 43 #[.bool false, .int .i64 2, .agg (recC 3 g (.slice ad n cap)).toArray] w (RetC w (true, 3, l)) := by
  have HM : Hid (Mod (fun _ => False) w ((w.alloc (.cells (recC 3 g (.slice ad n cap)).toArray 38 (0, 0))).alloc (.cells zR.toArray 38 (0, 0)))) := Lib.hid (((Mod.refl _ _).alloc _).alloc _)
  have HH : Hid (RdA ((w.alloc (.cells (recC 3 g (.slice ad n cap)).toArray 38 (0, 0))).alloc (.cells zR.toArray 38 (0, 0))) (.slice ad n cap) l) := Lib.hid (h.keep0 HM.out)
  have HS : Hid (∀ k g v, (Tryz.prog.info? 38).map (·.size) = some (recC k g v).length) := Lib.hid fun k g v => recC_sz k g v
  have HF2 : Hid (∀ k g v, 0 + (recC k g v).length ≤ (zR : List Value).length) := Lib.hid fun k g v => by rw [recC_len]; decide
  have hb := (Blk.new w 38 (recC 3 g (.slice ad n cap))).alloc (.cells zR.toArray 38 (0, 0))
  have c0 := hb.cell (j := 0) rfl
  have HB := Lib.hid hb
  have HR : Hid (Blk ((w.alloc (.cells (recC 3 g (.slice ad n cap)).toArray 38 (0, 0))).alloc (.cells zR.toArray 38 (0, 0))) (w.heap.size + 1) 38 zR) := Lib.hid (by
    have := Blk.new (w.alloc (.cells (recC 3 g (.slice ad n cap)).toArray 38 (0, 0))) 38 zR
    rwa [show (w.alloc (.cells (recC 3 g (.slice ad n cap)).toArray 38 (0, 0))).heap.size = w.heap.size + 1 by simp] at this)
  clear h hb
  go_enter Tryz.func43, Tryz.ntmps43
  go_wp2_with (first | (go_at_call 87; refine (last_s _ _).mono ?_; rintro e w1 ⟨rfl, rfl⟩; unfold lastV) | (refine wpList_load_blk rfl _ _ rfl w.heap.size 0 rfl 38 _ (recC 3 g (.slice ad n cap)) _ HB.out (List.take_of_length_le (Nat.le_refl _)) Tryz.underlying38 rfl (HS.out _ _ _) ?_) | (go_at_call 88; refine (cown_s 3 g HH.out hl).mono ?_; rintro e W1 ⟨b1, m1, d1, rfl, hr1, hm1⟩; have HR1 := Lib.hid hr1; have HM1 : Hid (Mod (fun _ => False) w W1) := Lib.hid (HM.out.trans hm1 fun _ f => f.elim); have HQ1 := Lib.hid (HR.out.keep hm1 fun f => f); clear hr1 hm1) | (refine wpList_store_blk rfl _ _ _ rfl (w.heap.size + 1) 0 38 zR (recC 3 g (.slice b1 m1 d1)) rfl rfl HQ1.out (HF2.out _ _ _) (HS.out _ _ _) (recC_one _ _ _ rfl) ?_; intro W3 HB4 HX3))
  refine bodyPost_ret (results_blk_tmp rfl _ (w.heap.size + 1) 38 (recC 3 g (.slice b1 m1 d1)) rfl rfl (splice_all HB4.out (by rw [recC_len]; rfl)) Tryz.underlying38 rfl (HS.out _ _ _)) rfl ?_
  exact ⟨g, b1, m1, d1, rfl, HR1.out.keepT HX3.out (HQ1.out.notA (by decide)), HM1.out.trans HX3.out fun q hq => .inr (by omega)⟩
theorem Cut_s {ad : Option Addr} {n cap : Nat} {l : List Ad} {w : World} (v6 : Bool) (mode k : Int) (hm : mode = 1 ∨ mode = 2 ∨ mode = 3) (g : Ad) (h : RdA w (.slice ad n cap) l) (hl : l.length ≤ 2000) :
    Calls Tryz.prog 43 #[.bool v6, .int .i64 mode, .agg (recC k g (.slice ad n cap)).toArray] w (RetC w (cutG v6 mode k l)) := by
  unfold cutG lastV
  cases v6 with
  | true =>
    rcases hm with rfl | rfl | rfl
    · rw [if_neg (by decide)]
      by_cases h6 : k = 6
      · subst h6; rw [if_pos (.inl rfl)]; exact cut_t1_6 g h hl
      · by_cases h3 : k = 3
        · subst h3; rw [if_neg (by simp), if_neg (by decide)]; exact cut_t1_3 0 g h hl
        · by_cases h4 : k = 4
          · subst h4; rw [if_neg (by simp), if_pos rfl]; exact cut_t1_4 g h hl
          · rw [if_neg (by simp [h6]), if_neg h4]; exact cut_t1_n k g h hl h6 h3 h4
    · rw [if_pos (by decide)]; exact cut_t2 k g h hl
    · rw [if_pos (by decide)]; exact cut_t3 k g h hl
  | false =>
    rcases hm with rfl | rfl | rfl
    · rw [if_neg (by decide)]
      by_cases h6 : k = 6
      · subst h6; rw [if_pos (.inl rfl)]; exact cut_f1_6 g h hl
      · by_cases h3 : k = 3
        · subst h3; rw [if_pos (.inr ⟨rfl, rfl, rfl⟩)]; exact cut_f1_3 g h hl
        · by_cases h4 : k = 4
          · subst h4; rw [if_neg (by simp), if_pos rfl]; exact cut_f1_4 g h hl
          · rw [if_neg (by simp [h6, h3]), if_neg h4]; exact cut_f1_n k g h hl h6 h3 h4
    · rw [if_neg (by decide)]
      by_cases h6 : k = 6
      · subst h6; rw [if_pos (.inl rfl)]; exact cut_f2_6 g h hl
      · by_cases h3 : k = 3
        · subst h3; rw [if_neg (by simp), if_neg (by decide)]; exact cut_f2_3 0 g h hl
        · by_cases h4 : k = 4
          · subst h4; rw [if_neg (by simp), if_pos rfl]; exact cut_f2_4 g h hl
          · rw [if_neg (by simp [h6]), if_neg h4]; exact cut_f2_n k g h hl h6 h3 h4
    · rw [if_pos (by decide)]; exact cut_f3 k g h hl
end Go.Proofs.YtcccdlmngddalaaGreat
