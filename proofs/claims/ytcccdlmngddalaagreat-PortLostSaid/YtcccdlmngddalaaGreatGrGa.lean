/- group.New, mode, hears, have, clean: contracts. -/
import Derived.Test.YtcccdlmngddalaaGreatGrX
import Derived.Test.YtcccdlmngddalaaGreatGrB
import Derived.Test.YtcccdlmngddalaaGreatRowK
import Derived.WalkArith
import Derived.Test.YtcccdlmngddalaaGreatGrV
set_option linter.unusedVariables false
set_option linter.unusedSimpArgs false
namespace Go.Proofs.YtcccdlmngddalaaGreat
open Go.RowKit Go.Sort
structure Tn where
  robust : Int
  every : Int
  resp : Int
  last : Int
  count : Int
def Tn.c (t : Tn) : List Value := [.int .i64 t.robust, .int .i64 t.every, .int .i64 t.resp, .int .i64 t.last, .int .i64 t.count]
def Tn.ok (t : Tn) : Prop := 1 ≤ t.robust ∧ t.robust ≤ 7 ∧ 1 ≤ t.every ∧ t.every ≤ 317440 ∧ 1 ≤ t.resp ∧ t.resp ≤ 31744 ∧ 1 ≤ t.last ∧ t.last ≤ 31744 ∧ 1 ≤ t.count ∧ t.count ≤ 7
def Tn.member (t : Tn) : Int := t.robust * t.every + t.resp
theorem Tn.prod {a b m n : Int} (h1 : 1 ≤ a) (h2 : a ≤ m) (h3 : 1 ≤ b) (h4 : b ≤ n) : 1 ≤ a * b ∧ a * b ≤ m * n := by
  constructor
  · have := Int.mul_le_mul h1 h3 (by omega) (by omega); simpa using this
  · exact Int.mul_le_mul h2 h4 (by omega) (by omega)
theorem Tn.member_bd {t : Tn} (h : t.ok) : 2 ≤ t.member ∧ t.member ≤ 2300000 := by
  obtain ⟨a, b, c, d, e, f, _⟩ := h
  have := Tn.prod a b c d
  unfold Tn.member
  omega
set_option maxRecDepth 100000 in
theorem member_s (t : Tn) (ht : t.ok) (w : World) : Calls Tryz.prog 99 #[.agg t.c.toArray] w fun e w' => e = .returned (.int .i64 t.member) ∧ Mod (fun _ => False) w w' := by
  have hb := Blk.new w 32 t.c
  have c0 := hb.cell (j := 0) rfl
  have c1 := hb.cell (j := 1) rfl
  have c2 := hb.cell (j := 2) rfl
  have e1 : IntKind.i64.wrap (t.robust * t.every) = t.robust * t.every := IntWalk.i64_in _ (by obtain ⟨a, b, c, d, e, f, _⟩ := ht; have := Tn.prod a b c d; omega)
  have e2 : IntKind.i64.wrap (t.robust * t.every + t.resp) = t.member := IntWalk.i64_in _ (by have := Tn.member_bd ht; unfold Tn.member at this; omega)
  have HM : Hid (Mod (fun _ => False) w (w.alloc (.cells t.c.toArray 32 (0, 0)))) := Lib.hid ((Mod.refl _ _).alloc _)
  clear hb ht
  go_enter Tryz.func99, Tryz.ntmps99
  go_wp2
  go_ret
  exact ⟨rfl, HM.out⟩
theorem tuSz : (Tryz.prog.info? 32).map (·.size) = some 5 := by kernel_rfl
set_option maxRecDepth 100000 in
theorem Member_s (t : Tn) (ht : t.ok) (w : World) : Calls Tryz.prog 49 #[.agg t.c.toArray] w fun e w' => e = .returned (.int .i64 t.member) ∧ Mod (fun _ => False) w w' := by
  have HB := Lib.hid (Blk.new w 32 t.c)
  have HM : Hid (Mod (fun _ => False) w (w.alloc (.cells t.c.toArray 32 (0, 0)))) := Lib.hid ((Mod.refl _ _).alloc _)
  have HT := Lib.hid ht
  clear ht
  go_enter Tryz.func49, Tryz.ntmps49
  go_wp2_with (first | (refine wpList_load_blk rfl _ _ rfl w.heap.size 0 rfl 32 t.c t.c _ HB.out rfl Tryz.underlying32 rfl tuSz ?_) | (go_at_call 99; refine (member_s t HT.out _).mono ?_; rintro e w1 ⟨rfl, hm⟩; have HM1 := Lib.hid (HM.out.trans hm fun _ f => f.elim); clear hm))
  go_ret
  exact ⟨rfl, HM1.out⟩
set_option maxRecDepth 100000 in
theorem Older_s (t : Tn) (ht : t.ok) (w : World) : Calls Tryz.prog 86 #[.agg t.c.toArray] w fun e w' => e = .returned (.int .i64 t.member) ∧ Mod (fun _ => False) w w' := by
  have HB := Lib.hid (Blk.new w 32 t.c)
  have HM : Hid (Mod (fun _ => False) w (w.alloc (.cells t.c.toArray 32 (0, 0)))) := Lib.hid ((Mod.refl _ _).alloc _)
  have HT := Lib.hid ht
  clear ht
  go_enter Tryz.func86, Tryz.ntmps86
  go_wp2_with (first | (refine wpList_load_blk rfl _ _ rfl w.heap.size 0 rfl 32 t.c t.c _ HB.out rfl Tryz.underlying32 rfl tuSz ?_) | (go_at_call 99; refine (member_s t HT.out _).mono ?_; rintro e w1 ⟨rfl, hm⟩; have HM1 := Lib.hid (HM.out.trans hm fun _ f => f.elim); clear hm))
  go_ret
  exact ⟨rfl, HM1.out⟩
def lastV (v6 : Bool) : Int := if v6 then 2 else 3
theorem last_s (v6 : Bool) (w : World) : Calls Tryz.prog 87 #[.bool v6] w fun e w' => e = .returned (.int .i64 (lastV v6)) ∧ w' = w := by
  go_enter Tryz.func87, Tryz.ntmps87
  cases v6 <;> (go_wp2; go_ret; exact ⟨rfl, rfl⟩)
def modeV (v6 : Bool) (now one two : Int) : Int := if one > now then 1 else if v6 = false ∧ two > now then 2 else lastV v6
theorem modeV_in (v6 : Bool) (now one two : Int) : modeV v6 now one two = 1 ∨ modeV v6 now one two = 2 ∨ modeV v6 now one two = 3 := by
  unfold modeV lastV
  split
  · exact .inl rfl
  · split
    · exact .inr (.inl rfl)
    · split
      · exact .inr (.inl rfl)
      · exact .inr (.inr rfl)
theorem Mode_s (v6 : Bool) (now one two : Int) (w : World) : Calls Tryz.prog 89 #[.bool v6, .int .i64 now, .int .i64 one, .int .i64 two] w fun e w' => e = .returned (.int .i64 (modeV v6 now one two)) ∧ w' = w := by
  by_cases h1 : one > now
  · rw [show modeV v6 now one two = 1 from if_pos h1]
    go_enter Tryz.func89, Tryz.ntmps89
    go_wp2
    go_ret
    exact ⟨rfl, rfl⟩
  · cases v6 with
    | true =>
      rw [show modeV true now one two = lastV true by unfold modeV; rw [if_neg h1, if_neg (by simp)]]
      go_enter Tryz.func89, Tryz.ntmps89
      go_wp2_with (go_at_call 87; refine (last_s _ _).mono ?_; rintro e w1 ⟨rfl, rfl⟩)
      go_ret
      exact ⟨rfl, rfl⟩
    | false =>
      by_cases h2 : two > now
      · rw [show modeV false now one two = 2 by unfold modeV; rw [if_neg h1, if_pos ⟨rfl, h2⟩]]
        go_enter Tryz.func89, Tryz.ntmps89
        go_wp2
        go_ret
        exact ⟨rfl, rfl⟩
      · rw [show modeV false now one two = lastV false by unfold modeV; rw [if_neg h1, if_neg (fun h => h2 h.2)]]
        go_enter Tryz.func89, Tryz.ntmps89
        go_wp2_with (go_at_call 87; refine (last_s _ _).mono ?_; rintro e w1 ⟨rfl, rfl⟩)
        go_ret
        exact ⟨rfl, rfl⟩
def recC (k : Int) (g : Ad) (v : Value) : List Value := .int .i64 k :: (g.c ++ [v])
theorem recC_len (k : Int) (g : Ad) (v : Value) : (recC k g v).length = 19 := by simp [recC, g.c_len]
theorem rcSz : (Tryz.prog.info? 38).map (·.size) = some 19 := by kernel_rfl
theorem recC_sz (k : Int) (g : Ad) (v : Value) : (Tryz.prog.info? 38).map (·.size) = some (recC k g v).length := by rw [recC_len]; exact rcSz
theorem recC_18 (k : Int) (g : Ad) (v : Value) : (recC k g v)[18]? = some v := by
  unfold recC
  rw [List.getElem?_cons_succ, List.getElem?_append_right (by rw [g.c_len]; omega), g.c_len]
  rfl
theorem recC_set (k : Int) (g : Ad) (v u : Value) : (recC k g v).set 18 u = recC k g u := by
  unfold recC
  rw [List.set_cons_succ, List.set_append_right _ _ (by rw [g.c_len]; omega), g.c_len]
  rfl
theorem recC_one (k : Int) (g : Ad) (v : Value) (h : v.oneCell' = true) : ∀ u ∈ recC k g v, u.oneCell' = true := by
  intro u hu
  unfold recC at hu
  rcases List.mem_cons.1 hu with rfl | hu
  · rfl
  · rcases List.mem_append.1 hu with hu | hu
    · exact g.c_one u hu
    · rw [List.mem_singleton.1 hu]; exact h
set_option maxRecDepth 100000 in
theorem cown_s {ad : Option Addr} {n cap : Nat} {l : List Ad} {w : World} (k : Int) (g : Ad) (h : RdA w (.slice ad n cap) l) (hl : l.length ≤ 2000) :
    Calls Tryz.prog 88 #[.agg (recC k g (.slice ad n cap)).toArray] w fun e w' => ∃ ad' n' cap', e = .returned (.agg (recC k g (.slice ad' n' cap')).toArray) ∧ RT w' (.slice ad' n' cap') l ∧ Mod (fun _ => False) w w' := by
  have HH := Lib.hid h
  have HZ := Lib.hid (recC_sz k g (.slice ad n cap))
  clear h
  have hb := (Blk.new w 38 (recC k g (.slice ad n cap))).alloc (.cells #[.int .i64 0, .bool false, .int .u8 0, .int .u8 0, .int .u8 0, .int .u8 0, .int .u8 0, .int .u8 0, .int .u8 0, .int .u8 0, .int .u8 0, .int .u8 0, .int .u8 0, .int .u8 0, .int .u8 0, .int .u8 0, .int .u8 0, .int .u8 0, .slice none 0 0] 38 (0, 0))
  have c0 : ((w.alloc (.cells (recC k g (.slice ad n cap)).toArray 38 (0, 0))).alloc (.cells #[.int .i64 0, .bool false, .int .u8 0, .int .u8 0, .int .u8 0, .int .u8 0, .int .u8 0, .int .u8 0, .int .u8 0, .int .u8 0, .int .u8 0, .int .u8 0, .int .u8 0, .int .u8 0, .int .u8 0, .int .u8 0, .int .u8 0, .int .u8 0, .slice none 0 0] 38 (0, 0))).cell? ⟨w.heap.size, 18, none⟩ = some (.slice ad n cap) := hb.cell (recC_18 _ _ _)
  have HB := Lib.hid hb
  have HR : Hid (Blk ((w.alloc (.cells (recC k g (.slice ad n cap)).toArray 38 (0, 0))).alloc (.cells #[.int .i64 0, .bool false, .int .u8 0, .int .u8 0, .int .u8 0, .int .u8 0, .int .u8 0, .int .u8 0, .int .u8 0, .int .u8 0, .int .u8 0, .int .u8 0, .int .u8 0, .int .u8 0, .int .u8 0, .int .u8 0, .int .u8 0, .int .u8 0, .slice none 0 0] 38 (0, 0))) (w.heap.size + 1) 38 ([.int .i64 0, .bool false, .int .u8 0, .int .u8 0, .int .u8 0, .int .u8 0, .int .u8 0, .int .u8 0, .int .u8 0, .int .u8 0, .int .u8 0, .int .u8 0, .int .u8 0, .int .u8 0, .int .u8 0, .int .u8 0, .int .u8 0, .int .u8 0, .slice none 0 0] : List Value)) := Lib.hid (by
    have := Blk.new (w.alloc (.cells (recC k g (.slice ad n cap)).toArray 38 (0, 0))) 38 ([.int .i64 0, .bool false, .int .u8 0, .int .u8 0, .int .u8 0, .int .u8 0, .int .u8 0, .int .u8 0, .int .u8 0, .int .u8 0, .int .u8 0, .int .u8 0, .int .u8 0, .int .u8 0, .int .u8 0, .int .u8 0, .int .u8 0, .int .u8 0, .slice none 0 0] : List Value)
    rwa [show (w.alloc (.cells (recC k g (.slice ad n cap)).toArray 38 (0, 0))).heap.size = w.heap.size + 1 by simp] at this)
  have HM : Hid (Mod (fun _ => False) w ((w.alloc (.cells (recC k g (.slice ad n cap)).toArray 38 (0, 0))).alloc (.cells #[.int .i64 0, .bool false, .int .u8 0, .int .u8 0, .int .u8 0, .int .u8 0, .int .u8 0, .int .u8 0, .int .u8 0, .int .u8 0, .int .u8 0, .int .u8 0, .int .u8 0, .int .u8 0, .int .u8 0, .int .u8 0, .int .u8 0, .int .u8 0, .slice none 0 0] 38 (0, 0)))) := Lib.hid (((Mod.refl _ _).alloc _).alloc _)
  have HF : Hid (18 < (recC k g (.slice ad n cap)).length) := Lib.hid (by rw [recC_len]; omega)
  have HS : Hid (∀ v, (Tryz.prog.info? 38).map (·.size) = some (recC k g v).length) := Lib.hid fun v => recC_sz k g v
  have HF2 : Hid (∀ v, 0 + (recC k g v).length ≤ ([.int .i64 0, .bool false, .int .u8 0, .int .u8 0, .int .u8 0, .int .u8 0, .int .u8 0, .int .u8 0, .int .u8 0, .int .u8 0, .int .u8 0, .int .u8 0, .int .u8 0, .int .u8 0, .int .u8 0, .int .u8 0, .int .u8 0, .int .u8 0, .slice none 0 0] : List Value).length) := Lib.hid fun v => by rw [recC_len]; decide
  clear hb
  go_enter Tryz.func88, Tryz.ntmps88
  go_wp2_with (first
    | (go_at_call 90; refine (Clone_s (HH.out.keep0 HM.out) hl).mono ?_; rintro e W1 ⟨b1, m1, d1, rfl, hr1, hm1⟩; have HR1 := Lib.hid hr1.rt; have HM1 : Hid (Mod (fun _ => False) w W1) := Lib.hid (HM.out.trans hm1 fun _ f => f.elim); have HB1 := Lib.hid (HB.out.keep hm1 fun f => f); have HQ1 := Lib.hid (HR.out.keep hm1 fun f => f); clear hr1 hm1)
    | (refine wpList_store_blk1 rfl _ _ _ rfl w.heap.size 18 38 _ (.slice b1 m1 d1) rfl rfl HB1.out HF.out slASz rfl ?_; intro W2 HB2 HX2; have HB3 : Hid (Blk W2 w.heap.size 38 (recC k g (.slice b1 m1 d1))) := Lib.hid (by have := HB2.out; rwa [recC_set] at this); have HR2 := Lib.hid (HR1.out.keepT HX2.out (HB1.out.notA (by decide))); have HQ2 := Lib.hid (HQ1.out.keep HX2.out fun e => by omega); have HM2 : Hid (Mod (fun _ => False) w W2) := Lib.hid (HM1.out.trans HX2.out fun q hq => .inr (by omega)))
    | (refine wpList_load_blk rfl _ _ rfl w.heap.size 0 rfl 38 _ (recC k g (.slice b1 m1 d1)) _ HB3.out (List.take_of_length_le (Nat.le_refl _)) Tryz.underlying38 rfl (HS.out _) ?_)
    | (refine wpList_store_blk rfl _ _ _ rfl (w.heap.size + 1) 0 38 ([.int .i64 0, .bool false, .int .u8 0, .int .u8 0, .int .u8 0, .int .u8 0, .int .u8 0, .int .u8 0, .int .u8 0, .int .u8 0, .int .u8 0, .int .u8 0, .int .u8 0, .int .u8 0, .int .u8 0, .int .u8 0, .int .u8 0, .int .u8 0, .slice none 0 0] : List Value) (recC k g (.slice b1 m1 d1)) rfl rfl HQ2.out (HF2.out _) (HS.out _) (recC_one _ _ _ rfl) ?_; intro W3 HB4 HX3))
  refine bodyPost_ret (results_blk rfl _ (w.heap.size + 1) 38 (recC k g (.slice b1 m1 d1)) rfl (splice_all HB4.out (by rw [recC_len]; rfl)) Tryz.underlying38 rfl (HS.out _)) rfl ?_
  exact ⟨b1, m1, d1, rfl, HR2.out.keepT HX3.out (HQ2.out.notA (by decide)), HM2.out.trans HX3.out fun q hq => .inr (by omega)⟩
abbrev zR : List Value := [.int .i64 0, .bool false, .int .u8 0, .int .u8 0, .int .u8 0, .int .u8 0, .int .u8 0, .int .u8 0, .int .u8 0, .int .u8 0, .int .u8 0, .int .u8 0, .int .u8 0, .int .u8 0, .int .u8 0, .int .u8 0, .int .u8 0, .int .u8 0, .slice none 0 0]
def cutG (v6 : Bool) (mode k : Int) (l : List Ad) : Bool × Int × List Ad :=
  if lastV v6 ≤ mode then (true, k, l) else if k = 6 ∨ (k = 3 ∧ mode = 1 ∧ v6 = false) then (false, 0, []) else if k = 4 then (true, 4, []) else (true, k, l)
def RetC (w : World) (x : Bool × Int × List Ad) (e : Ending) (w' : World) : Prop := ∃ g ad n cap, e = .returned (.tuple #[.agg (recC x.2.1 g (.slice ad n cap)).toArray, .bool x.1]) ∧ RT w' (.slice ad n cap) x.2.2 ∧ Mod (fun _ => False) w w'
set_option maxRecDepth 100000 in
theorem cut_t2 {ad : Option Addr} {n cap : Nat} {l : List Ad} {w : World} (k : Int) (g : Ad) (h : RdA w (.slice ad n cap) l) (hl : l.length ≤ 2000)  :
    Calls Tryz.prog 43 #[.bool true, .int .i64 2, .agg (recC k g (.slice ad n cap)).toArray] w (RetC w (true, k, l)) := by
  have HM : Hid (Mod (fun _ => False) w ((w.alloc (.cells (recC k g (.slice ad n cap)).toArray 38 (0, 0))).alloc (.cells zR.toArray 38 (0, 0)))) := Lib.hid (((Mod.refl _ _).alloc _).alloc _)
  have HH : Hid (RdA ((w.alloc (.cells (recC k g (.slice ad n cap)).toArray 38 (0, 0))).alloc (.cells zR.toArray 38 (0, 0))) (.slice ad n cap) l) := Lib.hid (h.keep0 HM.out)
  have HS : Hid (∀ k g v, (Tryz.prog.info? 38).map (·.size) = some (recC k g v).length) := Lib.hid fun k g v => recC_sz k g v
  have HF2 : Hid (∀ k g v, 0 + (recC k g v).length ≤ (zR : List Value).length) := Lib.hid fun k g v => by rw [recC_len]; decide
  have hb := (Blk.new w 38 (recC k g (.slice ad n cap))).alloc (.cells zR.toArray 38 (0, 0))
  have c0 := hb.cell (j := 0) rfl
  have HB := Lib.hid hb
  have HR : Hid (Blk ((w.alloc (.cells (recC k g (.slice ad n cap)).toArray 38 (0, 0))).alloc (.cells zR.toArray 38 (0, 0))) (w.heap.size + 1) 38 zR) := Lib.hid (by
    have := Blk.new (w.alloc (.cells (recC k g (.slice ad n cap)).toArray 38 (0, 0))) 38 zR
    rwa [show (w.alloc (.cells (recC k g (.slice ad n cap)).toArray 38 (0, 0))).heap.size = w.heap.size + 1 by simp] at this)
  clear h hb
  go_enter Tryz.func43, Tryz.ntmps43
  go_wp2_with (first | (go_at_call 87; refine (last_s _ _).mono ?_; rintro e w1 ⟨rfl, rfl⟩; unfold lastV) | (refine wpList_load_blk rfl _ _ rfl w.heap.size 0 rfl 38 _ (recC k g (.slice ad n cap)) _ HB.out (List.take_of_length_le (Nat.le_refl _)) Tryz.underlying38 rfl (HS.out _ _ _) ?_) | (go_at_call 88; refine (cown_s k g HH.out hl).mono ?_; rintro e W1 ⟨b1, m1, d1, rfl, hr1, hm1⟩; have HR1 := Lib.hid hr1; have HM1 : Hid (Mod (fun _ => False) w W1) := Lib.hid (HM.out.trans hm1 fun _ f => f.elim); have HQ1 := Lib.hid (HR.out.keep hm1 fun f => f); clear hr1 hm1) | (refine wpList_store_blk rfl _ _ _ rfl (w.heap.size + 1) 0 38 zR (recC k g (.slice b1 m1 d1)) rfl rfl HQ1.out (HF2.out _ _ _) (HS.out _ _ _) (recC_one _ _ _ rfl) ?_; intro W3 HB4 HX3))
  refine bodyPost_ret (results_blk_tmp rfl _ (w.heap.size + 1) 38 (recC k g (.slice b1 m1 d1)) rfl rfl (splice_all HB4.out (by rw [recC_len]; rfl)) Tryz.underlying38 rfl (HS.out _ _ _)) rfl ?_
  exact ⟨g, b1, m1, d1, rfl, HR1.out.keepT HX3.out (HQ1.out.notA (by decide)), HM1.out.trans HX3.out fun q hq => .inr (by omega)⟩
set_option maxRecDepth 100000 in
theorem cut_t3 {ad : Option Addr} {n cap : Nat} {l : List Ad} {w : World} (k : Int) (g : Ad) (h : RdA w (.slice ad n cap) l) (hl : l.length ≤ 2000)  :
    Calls Tryz.prog 43 #[.bool true, .int .i64 3, .agg (recC k g (.slice ad n cap)).toArray] w (RetC w (true, k, l)) := by
  have HM : Hid (Mod (fun _ => False) w ((w.alloc (.cells (recC k g (.slice ad n cap)).toArray 38 (0, 0))).alloc (.cells zR.toArray 38 (0, 0)))) := Lib.hid (((Mod.refl _ _).alloc _).alloc _)
  have HH : Hid (RdA ((w.alloc (.cells (recC k g (.slice ad n cap)).toArray 38 (0, 0))).alloc (.cells zR.toArray 38 (0, 0))) (.slice ad n cap) l) := Lib.hid (h.keep0 HM.out)
  have HS : Hid (∀ k g v, (Tryz.prog.info? 38).map (·.size) = some (recC k g v).length) := Lib.hid fun k g v => recC_sz k g v
  have HF2 : Hid (∀ k g v, 0 + (recC k g v).length ≤ (zR : List Value).length) := Lib.hid fun k g v => by rw [recC_len]; decide
  have hb := (Blk.new w 38 (recC k g (.slice ad n cap))).alloc (.cells zR.toArray 38 (0, 0))
  have c0 := hb.cell (j := 0) rfl
  have HB := Lib.hid hb
  have HR : Hid (Blk ((w.alloc (.cells (recC k g (.slice ad n cap)).toArray 38 (0, 0))).alloc (.cells zR.toArray 38 (0, 0))) (w.heap.size + 1) 38 zR) := Lib.hid (by
    have := Blk.new (w.alloc (.cells (recC k g (.slice ad n cap)).toArray 38 (0, 0))) 38 zR
    rwa [show (w.alloc (.cells (recC k g (.slice ad n cap)).toArray 38 (0, 0))).heap.size = w.heap.size + 1 by simp] at this)
  clear h hb
  go_enter Tryz.func43, Tryz.ntmps43
  go_wp2_with (first | (go_at_call 87; refine (last_s _ _).mono ?_; rintro e w1 ⟨rfl, rfl⟩; unfold lastV) | (refine wpList_load_blk rfl _ _ rfl w.heap.size 0 rfl 38 _ (recC k g (.slice ad n cap)) _ HB.out (List.take_of_length_le (Nat.le_refl _)) Tryz.underlying38 rfl (HS.out _ _ _) ?_) | (go_at_call 88; refine (cown_s k g HH.out hl).mono ?_; rintro e W1 ⟨b1, m1, d1, rfl, hr1, hm1⟩; have HR1 := Lib.hid hr1; have HM1 : Hid (Mod (fun _ => False) w W1) := Lib.hid (HM.out.trans hm1 fun _ f => f.elim); have HQ1 := Lib.hid (HR.out.keep hm1 fun f => f); clear hr1 hm1) | (refine wpList_store_blk rfl _ _ _ rfl (w.heap.size + 1) 0 38 zR (recC k g (.slice b1 m1 d1)) rfl rfl HQ1.out (HF2.out _ _ _) (HS.out _ _ _) (recC_one _ _ _ rfl) ?_; intro W3 HB4 HX3))
  refine bodyPost_ret (results_blk_tmp rfl _ (w.heap.size + 1) 38 (recC k g (.slice b1 m1 d1)) rfl rfl (splice_all HB4.out (by rw [recC_len]; rfl)) Tryz.underlying38 rfl (HS.out _ _ _)) rfl ?_
  exact ⟨g, b1, m1, d1, rfl, HR1.out.keepT HX3.out (HQ1.out.notA (by decide)), HM1.out.trans HX3.out fun q hq => .inr (by omega)⟩
set_option maxRecDepth 100000 in
theorem cut_f3 {ad : Option Addr} {n cap : Nat} {l : List Ad} {w : World} (k : Int) (g : Ad) (h : RdA w (.slice ad n cap) l) (hl : l.length ≤ 2000)  :
    Calls Tryz.prog 43 #[.bool false, .int .i64 3, .agg (recC k g (.slice ad n cap)).toArray] w (RetC w (true, k, l)) := by
  have HM : Hid (Mod (fun _ => False) w ((w.alloc (.cells (recC k g (.slice ad n cap)).toArray 38 (0, 0))).alloc (.cells zR.toArray 38 (0, 0)))) := Lib.hid (((Mod.refl _ _).alloc _).alloc _)
  have HH : Hid (RdA ((w.alloc (.cells (recC k g (.slice ad n cap)).toArray 38 (0, 0))).alloc (.cells zR.toArray 38 (0, 0))) (.slice ad n cap) l) := Lib.hid (h.keep0 HM.out)
  have HS : Hid (∀ k g v, (Tryz.prog.info? 38).map (·.size) = some (recC k g v).length) := Lib.hid fun k g v => recC_sz k g v
  have HF2 : Hid (∀ k g v, 0 + (recC k g v).length ≤ (zR : List Value).length) := Lib.hid fun k g v => by rw [recC_len]; decide
  have hb := (Blk.new w 38 (recC k g (.slice ad n cap))).alloc (.cells zR.toArray 38 (0, 0))
  have c0 := hb.cell (j := 0) rfl
  have HB := Lib.hid hb
  have HR : Hid (Blk ((w.alloc (.cells (recC k g (.slice ad n cap)).toArray 38 (0, 0))).alloc (.cells zR.toArray 38 (0, 0))) (w.heap.size + 1) 38 zR) := Lib.hid (by
    have := Blk.new (w.alloc (.cells (recC k g (.slice ad n cap)).toArray 38 (0, 0))) 38 zR
    rwa [show (w.alloc (.cells (recC k g (.slice ad n cap)).toArray 38 (0, 0))).heap.size = w.heap.size + 1 by simp] at this)
  clear h hb
  go_enter Tryz.func43, Tryz.ntmps43
  go_wp2_with (first | (go_at_call 87; refine (last_s _ _).mono ?_; rintro e w1 ⟨rfl, rfl⟩; unfold lastV) | (refine wpList_load_blk rfl _ _ rfl w.heap.size 0 rfl 38 _ (recC k g (.slice ad n cap)) _ HB.out (List.take_of_length_le (Nat.le_refl _)) Tryz.underlying38 rfl (HS.out _ _ _) ?_) | (go_at_call 88; refine (cown_s k g HH.out hl).mono ?_; rintro e W1 ⟨b1, m1, d1, rfl, hr1, hm1⟩; have HR1 := Lib.hid hr1; have HM1 : Hid (Mod (fun _ => False) w W1) := Lib.hid (HM.out.trans hm1 fun _ f => f.elim); have HQ1 := Lib.hid (HR.out.keep hm1 fun f => f); clear hr1 hm1) | (refine wpList_store_blk rfl _ _ _ rfl (w.heap.size + 1) 0 38 zR (recC k g (.slice b1 m1 d1)) rfl rfl HQ1.out (HF2.out _ _ _) (HS.out _ _ _) (recC_one _ _ _ rfl) ?_; intro W3 HB4 HX3))
  refine bodyPost_ret (results_blk_tmp rfl _ (w.heap.size + 1) 38 (recC k g (.slice b1 m1 d1)) rfl rfl (splice_all HB4.out (by rw [recC_len]; rfl)) Tryz.underlying38 rfl (HS.out _ _ _)) rfl ?_
  exact ⟨g, b1, m1, d1, rfl, HR1.out.keepT HX3.out (HQ1.out.notA (by decide)), HM1.out.trans HX3.out fun q hq => .inr (by omega)⟩
set_option maxRecDepth 100000 in
theorem cut_t1_6 {ad : Option Addr} {n cap : Nat} {l : List Ad} {w : World} (g : Ad) (h : RdA w (.slice ad n cap) l) (hl : l.length ≤ 2000) :
    Calls Tryz.prog 43 #[.bool true, .int .i64 1, .agg (recC 6 g (.slice ad n cap)).toArray] w (RetC w (false, 0, [])) := by
  have HM : Hid (Mod (fun _ => False) w ((w.alloc (.cells (recC 6 g (.slice ad n cap)).toArray 38 (0, 0))).alloc (.cells zR.toArray 38 (0, 0)))) := Lib.hid (((Mod.refl _ _).alloc _).alloc _)
  have HH : Hid (RdA ((w.alloc (.cells (recC 6 g (.slice ad n cap)).toArray 38 (0, 0))).alloc (.cells zR.toArray 38 (0, 0))) (.slice ad n cap) l) := Lib.hid (h.keep0 HM.out)
  have HS : Hid (∀ k g v, (Tryz.prog.info? 38).map (·.size) = some (recC k g v).length) := Lib.hid fun k g v => recC_sz k g v
  have HF2 : Hid (∀ k g v, 0 + (recC k g v).length ≤ (zR : List Value).length) := Lib.hid fun k g v => by rw [recC_len]; decide
  have hb := (Blk.new w 38 (recC 6 g (.slice ad n cap))).alloc (.cells zR.toArray 38 (0, 0))
  have c0 := hb.cell (j := 0) rfl
  have HB := Lib.hid hb
  have HR : Hid (Blk ((w.alloc (.cells (recC 6 g (.slice ad n cap)).toArray 38 (0, 0))).alloc (.cells zR.toArray 38 (0, 0))) (w.heap.size + 1) 38 zR) := Lib.hid (by
    have := Blk.new (w.alloc (.cells (recC 6 g (.slice ad n cap)).toArray 38 (0, 0))) 38 zR
    rwa [show (w.alloc (.cells (recC 6 g (.slice ad n cap)).toArray 38 (0, 0))).heap.size = w.heap.size + 1 by simp] at this)
  clear h hb
  go_enter Tryz.func43, Tryz.ntmps43
  go_wp2_with (first | (go_at_call 87; refine (last_s _ _).mono ?_; rintro e w1 ⟨rfl, rfl⟩; unfold lastV) | (refine wpList_store_blk rfl _ _ _ rfl (w.heap.size + 1) 0 38 zR zR rfl rfl HR.out (by simp) rcSz (by simp [Value.oneCell']) ?_; intro W3 HB4 HX3))
  refine bodyPost_ret (results_blk_tmp rfl _ (w.heap.size + 1) 38 zR rfl rfl (splice_all HB4.out rfl) Tryz.underlying38 rfl rcSz) rfl ?_
  exact ⟨⟨false, List.replicate 16 0, by simp, fun x hx => by rw [List.eq_of_mem_replicate hx]; omega⟩, none, 0, 0, rfl, RowA.nil _ _, HM.out.trans HX3.out fun q hq => .inr (by omega)⟩
set_option maxRecDepth 100000 in
theorem cut_t1_4 {ad : Option Addr} {n cap : Nat} {l : List Ad} {w : World} (g : Ad) (h : RdA w (.slice ad n cap) l) (hl : l.length ≤ 2000) :
    Calls Tryz.prog 43 #[.bool true, .int .i64 1, .agg (recC 4 g (.slice ad n cap)).toArray] w (RetC w (true, 4, [])) := by
  obtain ⟨gv, gb, gok⟩ := g
  obtain ⟨b0, b1, b2, b3, b4, b5, b6, b7, b8, b9, b10, b11, b12, b13, b14, b15, rfl⟩ : ∃ b0 b1 b2 b3 b4 b5 b6 b7 b8 b9 b10 b11 b12 b13 b14 b15 : Int, gb = [b0, b1, b2, b3, b4, b5, b6, b7, b8, b9, b10, b11, b12, b13, b14, b15] := by
    match gb, gok.1 with
    | [b0, b1, b2, b3, b4, b5, b6, b7, b8, b9, b10, b11, b12, b13, b14, b15], _ => exact ⟨b0, b1, b2, b3, b4, b5, b6, b7, b8, b9, b10, b11, b12, b13, b14, b15, rfl⟩
  obtain ⟨g, hg⟩ : ∃ g : Ad, g = ⟨gv, [b0, b1, b2, b3, b4, b5, b6, b7, b8, b9, b10, b11, b12, b13, b14, b15], gok⟩ := ⟨_, rfl⟩
  have HG : Hid (g.c = .bool gv :: [.int .u8 b0, .int .u8 b1, .int .u8 b2, .int .u8 b3, .int .u8 b4, .int .u8 b5, .int .u8 b6, .int .u8 b7, .int .u8 b8, .int .u8 b9, .int .u8 b10, .int .u8 b11, .int .u8 b12, .int .u8 b13, .int .u8 b14, .int .u8 b15]) := Lib.hid (by rw [hg]; rfl)
  rw [← hg]
  clear hg
  have HM : Hid (Mod (fun _ => False) w ((w.alloc (.cells (recC 4 g (.slice ad n cap)).toArray 38 (0, 0))).alloc (.cells zR.toArray 38 (0, 0)))) := Lib.hid (((Mod.refl _ _).alloc _).alloc _)
  have HH : Hid (RdA ((w.alloc (.cells (recC 4 g (.slice ad n cap)).toArray 38 (0, 0))).alloc (.cells zR.toArray 38 (0, 0))) (.slice ad n cap) l) := Lib.hid (h.keep0 HM.out)
  have HS : Hid (∀ k g v, (Tryz.prog.info? 38).map (·.size) = some (recC k g v).length) := Lib.hid fun k g v => recC_sz k g v
  have HF2 : Hid (∀ k g v, 0 + (recC k g v).length ≤ (zR : List Value).length) := Lib.hid fun k g v => by rw [recC_len]; decide
  have hb := (Blk.new w 38 (recC 4 g (.slice ad n cap))).alloc (.cells zR.toArray 38 (0, 0))
  have c0 := hb.cell (j := 0) rfl
  have HB := Lib.hid hb
  have HR : Hid (Blk ((w.alloc (.cells (recC 4 g (.slice ad n cap)).toArray 38 (0, 0))).alloc (.cells zR.toArray 38 (0, 0))) (w.heap.size + 1) 38 zR) := Lib.hid (by
    have := Blk.new (w.alloc (.cells (recC 4 g (.slice ad n cap)).toArray 38 (0, 0))) 38 zR
    rwa [show (w.alloc (.cells (recC 4 g (.slice ad n cap)).toArray 38 (0, 0))).heap.size = w.heap.size + 1 by simp] at this)
  clear h hb
  have HA : Hid (((recC 4 g (.slice ad n cap)).drop 1).take 17 = .bool gv :: [.int .u8 b0, .int .u8 b1, .int .u8 b2, .int .u8 b3, .int .u8 b4, .int .u8 b5, .int .u8 b6, .int .u8 b7, .int .u8 b8, .int .u8 b9, .int .u8 b10, .int .u8 b11, .int .u8 b12, .int .u8 b13, .int .u8 b14, .int .u8 b15]) := Lib.hid (by rw [← HG.out]; unfold recC; simp [g.c_len])
  go_enter Tryz.func43, Tryz.ntmps43
  go_wp2_with (first | (go_at_call 87; refine (last_s _ _).mono ?_; rintro e w1 ⟨rfl, rfl⟩; unfold lastV) | (refine wpList_load_blk rfl _ _ rfl w.heap.size 1 rfl 38 _ (.bool gv :: [.int .u8 b0, .int .u8 b1, .int .u8 b2, .int .u8 b3, .int .u8 b4, .int .u8 b5, .int .u8 b6, .int .u8 b7, .int .u8 b8, .int .u8 b9, .int .u8 b10, .int .u8 b11, .int .u8 b12, .int .u8 b13, .int .u8 b14, .int .u8 b15]) _ HB.out HA.out Tryz.underlying36 rfl adrSz ?_) | (refine wpList_store_blk rfl _ _ _ rfl (w.heap.size + 1) 0 38 zR [.int .i64 4, .bool gv, .int .u8 b0, .int .u8 b1, .int .u8 b2, .int .u8 b3, .int .u8 b4, .int .u8 b5, .int .u8 b6, .int .u8 b7, .int .u8 b8, .int .u8 b9, .int .u8 b10, .int .u8 b11, .int .u8 b12, .int .u8 b13, .int .u8 b14, .int .u8 b15, .slice none 0 0] rfl rfl HR.out (by simp) rcSz (by simp [Value.oneCell']) ?_; intro W3 HB4 HX3))
  refine bodyPost_ret (results_blk_tmp rfl _ (w.heap.size + 1) 38 [.int .i64 4, .bool gv, .int .u8 b0, .int .u8 b1, .int .u8 b2, .int .u8 b3, .int .u8 b4, .int .u8 b5, .int .u8 b6, .int .u8 b7, .int .u8 b8, .int .u8 b9, .int .u8 b10, .int .u8 b11, .int .u8 b12, .int .u8 b13, .int .u8 b14, .int .u8 b15, .slice none 0 0] rfl rfl (splice_all HB4.out rfl) Tryz.underlying38 rfl rcSz) rfl ?_
  exact ⟨g, none, 0, 0, by unfold recC; rw [HG.out]; rfl, RowA.nil _ _, HM.out.trans HX3.out fun q hq => .inr (by omega)⟩
set_option maxRecDepth 100000 in
theorem cut_t1_n {ad : Option Addr} {n cap : Nat} {l : List Ad} {w : World} (k : Int) (g : Ad) (h : RdA w (.slice ad n cap) l) (hl : l.length ≤ 2000) (h6 : ¬ k = 6) (h3 : ¬ k = 3) (h4 : ¬ k = 4) :
    Calls Tryz.prog 43 #[.bool true, .int .i64 1, .agg (recC k g (.slice ad n cap)).toArray] w (RetC w (true, k, l)) := by
  have HM : Hid (Mod (fun _ => False) w ((w.alloc (.cells (recC k g (.slice ad n cap)).toArray 38 (0, 0))).alloc (.cells zR.toArray 38 (0, 0)))) := Lib.hid (((Mod.refl _ _).alloc _).alloc _)
  have HH : Hid (RdA ((w.alloc (.cells (recC k g (.slice ad n cap)).toArray 38 (0, 0))).alloc (.cells zR.toArray 38 (0, 0))) (.slice ad n cap) l) := Lib.hid (h.keep0 HM.out)
  have HS : Hid (∀ k g v, (Tryz.prog.info? 38).map (·.size) = some (recC k g v).length) := Lib.hid fun k g v => recC_sz k g v
  have HF2 : Hid (∀ k g v, 0 + (recC k g v).length ≤ (zR : List Value).length) := Lib.hid fun k g v => by rw [recC_len]; decide
  have hb := (Blk.new w 38 (recC k g (.slice ad n cap))).alloc (.cells zR.toArray 38 (0, 0))
  have c0 := hb.cell (j := 0) rfl
  have HB := Lib.hid hb
  have HR : Hid (Blk ((w.alloc (.cells (recC k g (.slice ad n cap)).toArray 38 (0, 0))).alloc (.cells zR.toArray 38 (0, 0))) (w.heap.size + 1) 38 zR) := Lib.hid (by
    have := Blk.new (w.alloc (.cells (recC k g (.slice ad n cap)).toArray 38 (0, 0))) 38 zR
    rwa [show (w.alloc (.cells (recC k g (.slice ad n cap)).toArray 38 (0, 0))).heap.size = w.heap.size + 1 by simp] at this)
  clear h hb
  go_enter Tryz.func43, Tryz.ntmps43
  go_wp2_with (first | (go_at_call 87; refine (last_s _ _).mono ?_; rintro e w1 ⟨rfl, rfl⟩; unfold lastV) | (refine wpList_load_blk rfl _ _ rfl w.heap.size 0 rfl 38 _ (recC k g (.slice ad n cap)) _ HB.out (List.take_of_length_le (Nat.le_refl _)) Tryz.underlying38 rfl (HS.out _ _ _) ?_) | (go_at_call 88; refine (cown_s k g HH.out hl).mono ?_; rintro e W1 ⟨b1, m1, d1, rfl, hr1, hm1⟩; have HR1 := Lib.hid hr1; have HM1 : Hid (Mod (fun _ => False) w W1) := Lib.hid (HM.out.trans hm1 fun _ f => f.elim); have HQ1 := Lib.hid (HR.out.keep hm1 fun f => f); clear hr1 hm1) | (refine wpList_store_blk rfl _ _ _ rfl (w.heap.size + 1) 0 38 zR (recC k g (.slice b1 m1 d1)) rfl rfl HQ1.out (HF2.out _ _ _) (HS.out _ _ _) (recC_one _ _ _ rfl) ?_; intro W3 HB4 HX3))
  refine bodyPost_ret (results_blk_tmp rfl _ (w.heap.size + 1) 38 (recC k g (.slice b1 m1 d1)) rfl rfl (splice_all HB4.out (by rw [recC_len]; rfl)) Tryz.underlying38 rfl (HS.out _ _ _)) rfl ?_
  exact ⟨g, b1, m1, d1, rfl, HR1.out.keepT HX3.out (HQ1.out.notA (by decide)), HM1.out.trans HX3.out fun q hq => .inr (by omega)⟩
set_option maxRecDepth 100000 in
theorem cut_t1_3 {ad : Option Addr} {n cap : Nat} {l : List Ad} {w : World} (k : Int) (g : Ad) (h : RdA w (.slice ad n cap) l) (hl : l.length ≤ 2000)  :
    Calls Tryz.prog 43 #[.bool true, .int .i64 1, .agg (recC 3 g (.slice ad n cap)).toArray] w (RetC w (true, 3, l)) := by
  have HM : Hid (Mod (fun _ => False) w ((w.alloc (.cells (recC 3 g (.slice ad n cap)).toArray 38 (0, 0))).alloc (.cells zR.toArray 38 (0, 0)))) := Lib.hid (((Mod.refl _ _).alloc _).alloc _)
  have HH : Hid (RdA ((w.alloc (.cells (recC 3 g (.slice ad n cap)).toArray 38 (0, 0))).alloc (.cells zR.toArray 38 (0, 0))) (.slice ad n cap) l) := Lib.hid (h.keep0 HM.out)
  have HS : Hid (∀ k g v, (Tryz.prog.info? 38).map (·.size) = some (recC k g v).length) := Lib.hid fun k g v => recC_sz k g v
  have HF2 : Hid (∀ k g v, 0 + (recC k g v).length ≤ (zR : List Value).length) := Lib.hid fun k g v => by rw [recC_len]; decide
  have hb := (Blk.new w 38 (recC 3 g (.slice ad n cap))).alloc (.cells zR.toArray 38 (0, 0))
  have c0 := hb.cell (j := 0) rfl
  have HB := Lib.hid hb
  have HR : Hid (Blk ((w.alloc (.cells (recC 3 g (.slice ad n cap)).toArray 38 (0, 0))).alloc (.cells zR.toArray 38 (0, 0))) (w.heap.size + 1) 38 zR) := Lib.hid (by
    have := Blk.new (w.alloc (.cells (recC 3 g (.slice ad n cap)).toArray 38 (0, 0))) 38 zR
    rwa [show (w.alloc (.cells (recC 3 g (.slice ad n cap)).toArray 38 (0, 0))).heap.size = w.heap.size + 1 by simp] at this)
  clear h hb
  go_enter Tryz.func43, Tryz.ntmps43
  go_wp2_with (first | (go_at_call 87; refine (last_s _ _).mono ?_; rintro e w1 ⟨rfl, rfl⟩; unfold lastV) | (refine wpList_load_blk rfl _ _ rfl w.heap.size 0 rfl 38 _ (recC 3 g (.slice ad n cap)) _ HB.out (List.take_of_length_le (Nat.le_refl _)) Tryz.underlying38 rfl (HS.out _ _ _) ?_) | (go_at_call 88; refine (cown_s 3 g HH.out hl).mono ?_; rintro e W1 ⟨b1, m1, d1, rfl, hr1, hm1⟩; have HR1 := Lib.hid hr1; have HM1 : Hid (Mod (fun _ => False) w W1) := Lib.hid (HM.out.trans hm1 fun _ f => f.elim); have HQ1 := Lib.hid (HR.out.keep hm1 fun f => f); clear hr1 hm1) | (refine wpList_store_blk rfl _ _ _ rfl (w.heap.size + 1) 0 38 zR (recC 3 g (.slice b1 m1 d1)) rfl rfl HQ1.out (HF2.out _ _ _) (HS.out _ _ _) (recC_one _ _ _ rfl) ?_; intro W3 HB4 HX3))
  refine bodyPost_ret (results_blk_tmp rfl _ (w.heap.size + 1) 38 (recC 3 g (.slice b1 m1 d1)) rfl rfl (splice_all HB4.out (by rw [recC_len]; rfl)) Tryz.underlying38 rfl (HS.out _ _ _)) rfl ?_
  exact ⟨g, b1, m1, d1, rfl, HR1.out.keepT HX3.out (HQ1.out.notA (by decide)), HM1.out.trans HX3.out fun q hq => .inr (by omega)⟩
set_option maxRecDepth 100000 in
theorem cut_f1_6 {ad : Option Addr} {n cap : Nat} {l : List Ad} {w : World} (g : Ad) (h : RdA w (.slice ad n cap) l) (hl : l.length ≤ 2000) :
    Calls Tryz.prog 43 #[.bool false, .int .i64 1, .agg (recC 6 g (.slice ad n cap)).toArray] w (RetC w (false, 0, [])) := by
  have HM : Hid (Mod (fun _ => False) w ((w.alloc (.cells (recC 6 g (.slice ad n cap)).toArray 38 (0, 0))).alloc (.cells zR.toArray 38 (0, 0)))) := Lib.hid (((Mod.refl _ _).alloc _).alloc _)
  have HH : Hid (RdA ((w.alloc (.cells (recC 6 g (.slice ad n cap)).toArray 38 (0, 0))).alloc (.cells zR.toArray 38 (0, 0))) (.slice ad n cap) l) := Lib.hid (h.keep0 HM.out)
  have HS : Hid (∀ k g v, (Tryz.prog.info? 38).map (·.size) = some (recC k g v).length) := Lib.hid fun k g v => recC_sz k g v
  have HF2 : Hid (∀ k g v, 0 + (recC k g v).length ≤ (zR : List Value).length) := Lib.hid fun k g v => by rw [recC_len]; decide
  have hb := (Blk.new w 38 (recC 6 g (.slice ad n cap))).alloc (.cells zR.toArray 38 (0, 0))
  have c0 := hb.cell (j := 0) rfl
  have HB := Lib.hid hb
  have HR : Hid (Blk ((w.alloc (.cells (recC 6 g (.slice ad n cap)).toArray 38 (0, 0))).alloc (.cells zR.toArray 38 (0, 0))) (w.heap.size + 1) 38 zR) := Lib.hid (by
    have := Blk.new (w.alloc (.cells (recC 6 g (.slice ad n cap)).toArray 38 (0, 0))) 38 zR
    rwa [show (w.alloc (.cells (recC 6 g (.slice ad n cap)).toArray 38 (0, 0))).heap.size = w.heap.size + 1 by simp] at this)
  clear h hb
  go_enter Tryz.func43, Tryz.ntmps43
  go_wp2_with (first | (go_at_call 87; refine (last_s _ _).mono ?_; rintro e w1 ⟨rfl, rfl⟩; unfold lastV) | (refine wpList_store_blk rfl _ _ _ rfl (w.heap.size + 1) 0 38 zR zR rfl rfl HR.out (by simp) rcSz (by simp [Value.oneCell']) ?_; intro W3 HB4 HX3))
  refine bodyPost_ret (results_blk_tmp rfl _ (w.heap.size + 1) 38 zR rfl rfl (splice_all HB4.out rfl) Tryz.underlying38 rfl rcSz) rfl ?_
  exact ⟨⟨false, List.replicate 16 0, by simp, fun x hx => by rw [List.eq_of_mem_replicate hx]; omega⟩, none, 0, 0, rfl, RowA.nil _ _, HM.out.trans HX3.out fun q hq => .inr (by omega)⟩
set_option maxRecDepth 100000 in
theorem cut_f1_4 {ad : Option Addr} {n cap : Nat} {l : List Ad} {w : World} (g : Ad) (h : RdA w (.slice ad n cap) l) (hl : l.length ≤ 2000) :
    Calls Tryz.prog 43 #[.bool false, .int .i64 1, .agg (recC 4 g (.slice ad n cap)).toArray] w (RetC w (true, 4, [])) := by
  obtain ⟨gv, gb, gok⟩ := g
  obtain ⟨b0, b1, b2, b3, b4, b5, b6, b7, b8, b9, b10, b11, b12, b13, b14, b15, rfl⟩ : ∃ b0 b1 b2 b3 b4 b5 b6 b7 b8 b9 b10 b11 b12 b13 b14 b15 : Int, gb = [b0, b1, b2, b3, b4, b5, b6, b7, b8, b9, b10, b11, b12, b13, b14, b15] := by
    match gb, gok.1 with
    | [b0, b1, b2, b3, b4, b5, b6, b7, b8, b9, b10, b11, b12, b13, b14, b15], _ => exact ⟨b0, b1, b2, b3, b4, b5, b6, b7, b8, b9, b10, b11, b12, b13, b14, b15, rfl⟩
  obtain ⟨g, hg⟩ : ∃ g : Ad, g = ⟨gv, [b0, b1, b2, b3, b4, b5, b6, b7, b8, b9, b10, b11, b12, b13, b14, b15], gok⟩ := ⟨_, rfl⟩
  have HG : Hid (g.c = .bool gv :: [.int .u8 b0, .int .u8 b1, .int .u8 b2, .int .u8 b3, .int .u8 b4, .int .u8 b5, .int .u8 b6, .int .u8 b7, .int .u8 b8, .int .u8 b9, .int .u8 b10, .int .u8 b11, .int .u8 b12, .int .u8 b13, .int .u8 b14, .int .u8 b15]) := Lib.hid (by rw [hg]; rfl)
  rw [← hg]
  clear hg
  have HM : Hid (Mod (fun _ => False) w ((w.alloc (.cells (recC 4 g (.slice ad n cap)).toArray 38 (0, 0))).alloc (.cells zR.toArray 38 (0, 0)))) := Lib.hid (((Mod.refl _ _).alloc _).alloc _)
  have HH : Hid (RdA ((w.alloc (.cells (recC 4 g (.slice ad n cap)).toArray 38 (0, 0))).alloc (.cells zR.toArray 38 (0, 0))) (.slice ad n cap) l) := Lib.hid (h.keep0 HM.out)
  have HS : Hid (∀ k g v, (Tryz.prog.info? 38).map (·.size) = some (recC k g v).length) := Lib.hid fun k g v => recC_sz k g v
  have HF2 : Hid (∀ k g v, 0 + (recC k g v).length ≤ (zR : List Value).length) := Lib.hid fun k g v => by rw [recC_len]; decide
  have hb := (Blk.new w 38 (recC 4 g (.slice ad n cap))).alloc (.cells zR.toArray 38 (0, 0))
  have c0 := hb.cell (j := 0) rfl
  have HB := Lib.hid hb
  have HR : Hid (Blk ((w.alloc (.cells (recC 4 g (.slice ad n cap)).toArray 38 (0, 0))).alloc (.cells zR.toArray 38 (0, 0))) (w.heap.size + 1) 38 zR) := Lib.hid (by
    have := Blk.new (w.alloc (.cells (recC 4 g (.slice ad n cap)).toArray 38 (0, 0))) 38 zR
    rwa [show (w.alloc (.cells (recC 4 g (.slice ad n cap)).toArray 38 (0, 0))).heap.size = w.heap.size + 1 by simp] at this)
  clear h hb
  have HA : Hid (((recC 4 g (.slice ad n cap)).drop 1).take 17 = .bool gv :: [.int .u8 b0, .int .u8 b1, .int .u8 b2, .int .u8 b3, .int .u8 b4, .int .u8 b5, .int .u8 b6, .int .u8 b7, .int .u8 b8, .int .u8 b9, .int .u8 b10, .int .u8 b11, .int .u8 b12, .int .u8 b13, .int .u8 b14, .int .u8 b15]) := Lib.hid (by rw [← HG.out]; unfold recC; simp [g.c_len])
  go_enter Tryz.func43, Tryz.ntmps43
  go_wp2_with (first | (go_at_call 87; refine (last_s _ _).mono ?_; rintro e w1 ⟨rfl, rfl⟩; unfold lastV) | (refine wpList_load_blk rfl _ _ rfl w.heap.size 1 rfl 38 _ (.bool gv :: [.int .u8 b0, .int .u8 b1, .int .u8 b2, .int .u8 b3, .int .u8 b4, .int .u8 b5, .int .u8 b6, .int .u8 b7, .int .u8 b8, .int .u8 b9, .int .u8 b10, .int .u8 b11, .int .u8 b12, .int .u8 b13, .int .u8 b14, .int .u8 b15]) _ HB.out HA.out Tryz.underlying36 rfl adrSz ?_) | (refine wpList_store_blk rfl _ _ _ rfl (w.heap.size + 1) 0 38 zR [.int .i64 4, .bool gv, .int .u8 b0, .int .u8 b1, .int .u8 b2, .int .u8 b3, .int .u8 b4, .int .u8 b5, .int .u8 b6, .int .u8 b7, .int .u8 b8, .int .u8 b9, .int .u8 b10, .int .u8 b11, .int .u8 b12, .int .u8 b13, .int .u8 b14, .int .u8 b15, .slice none 0 0] rfl rfl HR.out (by simp) rcSz (by simp [Value.oneCell']) ?_; intro W3 HB4 HX3))
  refine bodyPost_ret (results_blk_tmp rfl _ (w.heap.size + 1) 38 [.int .i64 4, .bool gv, .int .u8 b0, .int .u8 b1, .int .u8 b2, .int .u8 b3, .int .u8 b4, .int .u8 b5, .int .u8 b6, .int .u8 b7, .int .u8 b8, .int .u8 b9, .int .u8 b10, .int .u8 b11, .int .u8 b12, .int .u8 b13, .int .u8 b14, .int .u8 b15, .slice none 0 0] rfl rfl (splice_all HB4.out rfl) Tryz.underlying38 rfl rcSz) rfl ?_
  exact ⟨g, none, 0, 0, by unfold recC; rw [HG.out]; rfl, RowA.nil _ _, HM.out.trans HX3.out fun q hq => .inr (by omega)⟩
set_option maxRecDepth 100000 in
theorem cut_f1_n {ad : Option Addr} {n cap : Nat} {l : List Ad} {w : World} (k : Int) (g : Ad) (h : RdA w (.slice ad n cap) l) (hl : l.length ≤ 2000) (h6 : ¬ k = 6) (h3 : ¬ k = 3) (h4 : ¬ k = 4) :
    Calls Tryz.prog 43 #[.bool false, .int .i64 1, .agg (recC k g (.slice ad n cap)).toArray] w (RetC w (true, k, l)) := by
  have HM : Hid (Mod (fun _ => False) w ((w.alloc (.cells (recC k g (.slice ad n cap)).toArray 38 (0, 0))).alloc (.cells zR.toArray 38 (0, 0)))) := Lib.hid (((Mod.refl _ _).alloc _).alloc _)
  have HH : Hid (RdA ((w.alloc (.cells (recC k g (.slice ad n cap)).toArray 38 (0, 0))).alloc (.cells zR.toArray 38 (0, 0))) (.slice ad n cap) l) := Lib.hid (h.keep0 HM.out)
  have HS : Hid (∀ k g v, (Tryz.prog.info? 38).map (·.size) = some (recC k g v).length) := Lib.hid fun k g v => recC_sz k g v
  have HF2 : Hid (∀ k g v, 0 + (recC k g v).length ≤ (zR : List Value).length) := Lib.hid fun k g v => by rw [recC_len]; decide
  have hb := (Blk.new w 38 (recC k g (.slice ad n cap))).alloc (.cells zR.toArray 38 (0, 0))
  have c0 := hb.cell (j := 0) rfl
  have HB := Lib.hid hb
  have HR : Hid (Blk ((w.alloc (.cells (recC k g (.slice ad n cap)).toArray 38 (0, 0))).alloc (.cells zR.toArray 38 (0, 0))) (w.heap.size + 1) 38 zR) := Lib.hid (by
    have := Blk.new (w.alloc (.cells (recC k g (.slice ad n cap)).toArray 38 (0, 0))) 38 zR
    rwa [show (w.alloc (.cells (recC k g (.slice ad n cap)).toArray 38 (0, 0))).heap.size = w.heap.size + 1 by simp] at this)
  clear h hb
  go_enter Tryz.func43, Tryz.ntmps43
  go_wp2_with (first | (go_at_call 87; refine (last_s _ _).mono ?_; rintro e w1 ⟨rfl, rfl⟩; unfold lastV) | (refine wpList_load_blk rfl _ _ rfl w.heap.size 0 rfl 38 _ (recC k g (.slice ad n cap)) _ HB.out (List.take_of_length_le (Nat.le_refl _)) Tryz.underlying38 rfl (HS.out _ _ _) ?_) | (go_at_call 88; refine (cown_s k g HH.out hl).mono ?_; rintro e W1 ⟨b1, m1, d1, rfl, hr1, hm1⟩; have HR1 := Lib.hid hr1; have HM1 : Hid (Mod (fun _ => False) w W1) := Lib.hid (HM.out.trans hm1 fun _ f => f.elim); have HQ1 := Lib.hid (HR.out.keep hm1 fun f => f); clear hr1 hm1) | (refine wpList_store_blk rfl _ _ _ rfl (w.heap.size + 1) 0 38 zR (recC k g (.slice b1 m1 d1)) rfl rfl HQ1.out (HF2.out _ _ _) (HS.out _ _ _) (recC_one _ _ _ rfl) ?_; intro W3 HB4 HX3))
  refine bodyPost_ret (results_blk_tmp rfl _ (w.heap.size + 1) 38 (recC k g (.slice b1 m1 d1)) rfl rfl (splice_all HB4.out (by rw [recC_len]; rfl)) Tryz.underlying38 rfl (HS.out _ _ _)) rfl ?_
  exact ⟨g, b1, m1, d1, rfl, HR1.out.keepT HX3.out (HQ1.out.notA (by decide)), HM1.out.trans HX3.out fun q hq => .inr (by omega)⟩
set_option maxRecDepth 100000 in
theorem cut_f1_3 {ad : Option Addr} {n cap : Nat} {l : List Ad} {w : World} (g : Ad) (h : RdA w (.slice ad n cap) l) (hl : l.length ≤ 2000) :
    Calls Tryz.prog 43 #[.bool false, .int .i64 1, .agg (recC 3 g (.slice ad n cap)).toArray] w (RetC w (false, 0, [])) := by
  have HM : Hid (Mod (fun _ => False) w ((w.alloc (.cells (recC 3 g (.slice ad n cap)).toArray 38 (0, 0))).alloc (.cells zR.toArray 38 (0, 0)))) := Lib.hid (((Mod.refl _ _).alloc _).alloc _)
  have HH : Hid (RdA ((w.alloc (.cells (recC 3 g (.slice ad n cap)).toArray 38 (0, 0))).alloc (.cells zR.toArray 38 (0, 0))) (.slice ad n cap) l) := Lib.hid (h.keep0 HM.out)
  have HS : Hid (∀ k g v, (Tryz.prog.info? 38).map (·.size) = some (recC k g v).length) := Lib.hid fun k g v => recC_sz k g v
  have HF2 : Hid (∀ k g v, 0 + (recC k g v).length ≤ (zR : List Value).length) := Lib.hid fun k g v => by rw [recC_len]; decide
  have hb := (Blk.new w 38 (recC 3 g (.slice ad n cap))).alloc (.cells zR.toArray 38 (0, 0))
  have c0 := hb.cell (j := 0) rfl
  have HB := Lib.hid hb
  have HR : Hid (Blk ((w.alloc (.cells (recC 3 g (.slice ad n cap)).toArray 38 (0, 0))).alloc (.cells zR.toArray 38 (0, 0))) (w.heap.size + 1) 38 zR) := Lib.hid (by
    have := Blk.new (w.alloc (.cells (recC 3 g (.slice ad n cap)).toArray 38 (0, 0))) 38 zR
    rwa [show (w.alloc (.cells (recC 3 g (.slice ad n cap)).toArray 38 (0, 0))).heap.size = w.heap.size + 1 by simp] at this)
  clear h hb
  go_enter Tryz.func43, Tryz.ntmps43
  go_wp2_with (first | (go_at_call 87; refine (last_s _ _).mono ?_; rintro e w1 ⟨rfl, rfl⟩; unfold lastV) | (refine wpList_store_blk rfl _ _ _ rfl (w.heap.size + 1) 0 38 zR zR rfl rfl HR.out (by simp) rcSz (by simp [Value.oneCell']) ?_; intro W3 HB4 HX3))
  refine bodyPost_ret (results_blk_tmp rfl _ (w.heap.size + 1) 38 zR rfl rfl (splice_all HB4.out rfl) Tryz.underlying38 rfl rcSz) rfl ?_
  exact ⟨⟨false, List.replicate 16 0, by simp, fun x hx => by rw [List.eq_of_mem_replicate hx]; omega⟩, none, 0, 0, rfl, RowA.nil _ _, HM.out.trans HX3.out fun q hq => .inr (by omega)⟩
set_option maxRecDepth 100000 in
theorem cut_f2_6 {ad : Option Addr} {n cap : Nat} {l : List Ad} {w : World} (g : Ad) (h : RdA w (.slice ad n cap) l) (hl : l.length ≤ 2000) :
    Calls Tryz.prog 43 #[.bool false, .int .i64 2, .agg (recC 6 g (.slice ad n cap)).toArray] w (RetC w (false, 0, [])) := by
  have HM : Hid (Mod (fun _ => False) w ((w.alloc (.cells (recC 6 g (.slice ad n cap)).toArray 38 (0, 0))).alloc (.cells zR.toArray 38 (0, 0)))) := Lib.hid (((Mod.refl _ _).alloc _).alloc _)
  have HH : Hid (RdA ((w.alloc (.cells (recC 6 g (.slice ad n cap)).toArray 38 (0, 0))).alloc (.cells zR.toArray 38 (0, 0))) (.slice ad n cap) l) := Lib.hid (h.keep0 HM.out)
  have HS : Hid (∀ k g v, (Tryz.prog.info? 38).map (·.size) = some (recC k g v).length) := Lib.hid fun k g v => recC_sz k g v
  have HF2 : Hid (∀ k g v, 0 + (recC k g v).length ≤ (zR : List Value).length) := Lib.hid fun k g v => by rw [recC_len]; decide
  have hb := (Blk.new w 38 (recC 6 g (.slice ad n cap))).alloc (.cells zR.toArray 38 (0, 0))
  have c0 := hb.cell (j := 0) rfl
  have HB := Lib.hid hb
  have HR : Hid (Blk ((w.alloc (.cells (recC 6 g (.slice ad n cap)).toArray 38 (0, 0))).alloc (.cells zR.toArray 38 (0, 0))) (w.heap.size + 1) 38 zR) := Lib.hid (by
    have := Blk.new (w.alloc (.cells (recC 6 g (.slice ad n cap)).toArray 38 (0, 0))) 38 zR
    rwa [show (w.alloc (.cells (recC 6 g (.slice ad n cap)).toArray 38 (0, 0))).heap.size = w.heap.size + 1 by simp] at this)
  clear h hb
  go_enter Tryz.func43, Tryz.ntmps43
  go_wp2_with (first | (go_at_call 87; refine (last_s _ _).mono ?_; rintro e w1 ⟨rfl, rfl⟩; unfold lastV) | (refine wpList_store_blk rfl _ _ _ rfl (w.heap.size + 1) 0 38 zR zR rfl rfl HR.out (by simp) rcSz (by simp [Value.oneCell']) ?_; intro W3 HB4 HX3))
  refine bodyPost_ret (results_blk_tmp rfl _ (w.heap.size + 1) 38 zR rfl rfl (splice_all HB4.out rfl) Tryz.underlying38 rfl rcSz) rfl ?_
  exact ⟨⟨false, List.replicate 16 0, by simp, fun x hx => by rw [List.eq_of_mem_replicate hx]; omega⟩, none, 0, 0, rfl, RowA.nil _ _, HM.out.trans HX3.out fun q hq => .inr (by omega)⟩
set_option maxRecDepth 100000 in
theorem cut_f2_4 {ad : Option Addr} {n cap : Nat} {l : List Ad} {w : World} (g : Ad) (h : RdA w (.slice ad n cap) l) (hl : l.length ≤ 2000) :
    Calls Tryz.prog 43 #[.bool false, .int .i64 2, .agg (recC 4 g (.slice ad n cap)).toArray] w (RetC w (true, 4, [])) := by
  obtain ⟨gv, gb, gok⟩ := g
  obtain ⟨b0, b1, b2, b3, b4, b5, b6, b7, b8, b9, b10, b11, b12, b13, b14, b15, rfl⟩ : ∃ b0 b1 b2 b3 b4 b5 b6 b7 b8 b9 b10 b11 b12 b13 b14 b15 : Int, gb = [b0, b1, b2, b3, b4, b5, b6, b7, b8, b9, b10, b11, b12, b13, b14, b15] := by
    match gb, gok.1 with
    | [b0, b1, b2, b3, b4, b5, b6, b7, b8, b9, b10, b11, b12, b13, b14, b15], _ => exact ⟨b0, b1, b2, b3, b4, b5, b6, b7, b8, b9, b10, b11, b12, b13, b14, b15, rfl⟩
  obtain ⟨g, hg⟩ : ∃ g : Ad, g = ⟨gv, [b0, b1, b2, b3, b4, b5, b6, b7, b8, b9, b10, b11, b12, b13, b14, b15], gok⟩ := ⟨_, rfl⟩
  have HG : Hid (g.c = .bool gv :: [.int .u8 b0, .int .u8 b1, .int .u8 b2, .int .u8 b3, .int .u8 b4, .int .u8 b5, .int .u8 b6, .int .u8 b7, .int .u8 b8, .int .u8 b9, .int .u8 b10, .int .u8 b11, .int .u8 b12, .int .u8 b13, .int .u8 b14, .int .u8 b15]) := Lib.hid (by rw [hg]; rfl)
  rw [← hg]
  clear hg
  have HM : Hid (Mod (fun _ => False) w ((w.alloc (.cells (recC 4 g (.slice ad n cap)).toArray 38 (0, 0))).alloc (.cells zR.toArray 38 (0, 0)))) := Lib.hid (((Mod.refl _ _).alloc _).alloc _)
  have HH : Hid (RdA ((w.alloc (.cells (recC 4 g (.slice ad n cap)).toArray 38 (0, 0))).alloc (.cells zR.toArray 38 (0, 0))) (.slice ad n cap) l) := Lib.hid (h.keep0 HM.out)
  have HS : Hid (∀ k g v, (Tryz.prog.info? 38).map (·.size) = some (recC k g v).length) := Lib.hid fun k g v => recC_sz k g v
  have HF2 : Hid (∀ k g v, 0 + (recC k g v).length ≤ (zR : List Value).length) := Lib.hid fun k g v => by rw [recC_len]; decide
  have hb := (Blk.new w 38 (recC 4 g (.slice ad n cap))).alloc (.cells zR.toArray 38 (0, 0))
  have c0 := hb.cell (j := 0) rfl
  have HB := Lib.hid hb
  have HR : Hid (Blk ((w.alloc (.cells (recC 4 g (.slice ad n cap)).toArray 38 (0, 0))).alloc (.cells zR.toArray 38 (0, 0))) (w.heap.size + 1) 38 zR) := Lib.hid (by
    have := Blk.new (w.alloc (.cells (recC 4 g (.slice ad n cap)).toArray 38 (0, 0))) 38 zR
    rwa [show (w.alloc (.cells (recC 4 g (.slice ad n cap)).toArray 38 (0, 0))).heap.size = w.heap.size + 1 by simp] at this)
  clear h hb
  have HA : Hid (((recC 4 g (.slice ad n cap)).drop 1).take 17 = .bool gv :: [.int .u8 b0, .int .u8 b1, .int .u8 b2, .int .u8 b3, .int .u8 b4, .int .u8 b5, .int .u8 b6, .int .u8 b7, .int .u8 b8, .int .u8 b9, .int .u8 b10, .int .u8 b11, .int .u8 b12, .int .u8 b13, .int .u8 b14, .int .u8 b15]) := Lib.hid (by rw [← HG.out]; unfold recC; simp [g.c_len])
  go_enter Tryz.func43, Tryz.ntmps43
  go_wp2_with (first | (go_at_call 87; refine (last_s _ _).mono ?_; rintro e w1 ⟨rfl, rfl⟩; unfold lastV) | (refine wpList_load_blk rfl _ _ rfl w.heap.size 1 rfl 38 _ (.bool gv :: [.int .u8 b0, .int .u8 b1, .int .u8 b2, .int .u8 b3, .int .u8 b4, .int .u8 b5, .int .u8 b6, .int .u8 b7, .int .u8 b8, .int .u8 b9, .int .u8 b10, .int .u8 b11, .int .u8 b12, .int .u8 b13, .int .u8 b14, .int .u8 b15]) _ HB.out HA.out Tryz.underlying36 rfl adrSz ?_) | (refine wpList_store_blk rfl _ _ _ rfl (w.heap.size + 1) 0 38 zR [.int .i64 4, .bool gv, .int .u8 b0, .int .u8 b1, .int .u8 b2, .int .u8 b3, .int .u8 b4, .int .u8 b5, .int .u8 b6, .int .u8 b7, .int .u8 b8, .int .u8 b9, .int .u8 b10, .int .u8 b11, .int .u8 b12, .int .u8 b13, .int .u8 b14, .int .u8 b15, .slice none 0 0] rfl rfl HR.out (by simp) rcSz (by simp [Value.oneCell']) ?_; intro W3 HB4 HX3))
  refine bodyPost_ret (results_blk_tmp rfl _ (w.heap.size + 1) 38 [.int .i64 4, .bool gv, .int .u8 b0, .int .u8 b1, .int .u8 b2, .int .u8 b3, .int .u8 b4, .int .u8 b5, .int .u8 b6, .int .u8 b7, .int .u8 b8, .int .u8 b9, .int .u8 b10, .int .u8 b11, .int .u8 b12, .int .u8 b13, .int .u8 b14, .int .u8 b15, .slice none 0 0] rfl rfl (splice_all HB4.out rfl) Tryz.underlying38 rfl rcSz) rfl ?_
  exact ⟨g, none, 0, 0, by unfold recC; rw [HG.out]; rfl, RowA.nil _ _, HM.out.trans HX3.out fun q hq => .inr (by omega)⟩
set_option maxRecDepth 100000 in
theorem cut_f2_n {ad : Option Addr} {n cap : Nat} {l : List Ad} {w : World} (k : Int) (g : Ad) (h : RdA w (.slice ad n cap) l) (hl : l.length ≤ 2000) (h6 : ¬ k = 6) (h3 : ¬ k = 3) (h4 : ¬ k = 4) :
    Calls Tryz.prog 43 #[.bool false, .int .i64 2, .agg (recC k g (.slice ad n cap)).toArray] w (RetC w (true, k, l)) := by
  have HM : Hid (Mod (fun _ => False) w ((w.alloc (.cells (recC k g (.slice ad n cap)).toArray 38 (0, 0))).alloc (.cells zR.toArray 38 (0, 0)))) := Lib.hid (((Mod.refl _ _).alloc _).alloc _)
  have HH : Hid (RdA ((w.alloc (.cells (recC k g (.slice ad n cap)).toArray 38 (0, 0))).alloc (.cells zR.toArray 38 (0, 0))) (.slice ad n cap) l) := Lib.hid (h.keep0 HM.out)
  have HS : Hid (∀ k g v, (Tryz.prog.info? 38).map (·.size) = some (recC k g v).length) := Lib.hid fun k g v => recC_sz k g v
  have HF2 : Hid (∀ k g v, 0 + (recC k g v).length ≤ (zR : List Value).length) := Lib.hid fun k g v => by rw [recC_len]; decide
  have hb := (Blk.new w 38 (recC k g (.slice ad n cap))).alloc (.cells zR.toArray 38 (0, 0))
  have c0 := hb.cell (j := 0) rfl
  have HB := Lib.hid hb
  have HR : Hid (Blk ((w.alloc (.cells (recC k g (.slice ad n cap)).toArray 38 (0, 0))).alloc (.cells zR.toArray 38 (0, 0))) (w.heap.size + 1) 38 zR) := Lib.hid (by
    have := Blk.new (w.alloc (.cells (recC k g (.slice ad n cap)).toArray 38 (0, 0))) 38 zR
    rwa [show (w.alloc (.cells (recC k g (.slice ad n cap)).toArray 38 (0, 0))).heap.size = w.heap.size + 1 by simp] at this)
  clear h hb
  go_enter Tryz.func43, Tryz.ntmps43
  go_wp2_with (first | (go_at_call 87; refine (last_s _ _).mono ?_; rintro e w1 ⟨rfl, rfl⟩; unfold lastV) | (refine wpList_load_blk rfl _ _ rfl w.heap.size 0 rfl 38 _ (recC k g (.slice ad n cap)) _ HB.out (List.take_of_length_le (Nat.le_refl _)) Tryz.underlying38 rfl (HS.out _ _ _) ?_) | (go_at_call 88; refine (cown_s k g HH.out hl).mono ?_; rintro e W1 ⟨b1, m1, d1, rfl, hr1, hm1⟩; have HR1 := Lib.hid hr1; have HM1 : Hid (Mod (fun _ => False) w W1) := Lib.hid (HM.out.trans hm1 fun _ f => f.elim); have HQ1 := Lib.hid (HR.out.keep hm1 fun f => f); clear hr1 hm1) | (refine wpList_store_blk rfl _ _ _ rfl (w.heap.size + 1) 0 38 zR (recC k g (.slice b1 m1 d1)) rfl rfl HQ1.out (HF2.out _ _ _) (HS.out _ _ _) (recC_one _ _ _ rfl) ?_; intro W3 HB4 HX3))
  refine bodyPost_ret (results_blk_tmp rfl _ (w.heap.size + 1) 38 (recC k g (.slice b1 m1 d1)) rfl rfl (splice_all HB4.out (by rw [recC_len]; rfl)) Tryz.underlying38 rfl (HS.out _ _ _)) rfl ?_
  exact ⟨g, b1, m1, d1, rfl, HR1.out.keepT HX3.out (HQ1.out.notA (by decide)), HM1.out.trans HX3.out fun q hq => .inr (by omega)⟩
set_option maxRecDepth 100000 in
theorem cut_f2_3 {ad : Option Addr} {n cap : Nat} {l : List Ad} {w : World} (k : Int) (g : Ad) (h : RdA w (.slice ad n cap) l) (hl : l.length ≤ 2000)  :
    Calls Tryz.prog 43 #[.bool false, .int .i64 2, .agg (recC 3 g (.slice ad n cap)).toArray] w (RetC w (true, 3, l)) := by
  have HM : Hid (Mod (fun _ => False) w ((w.alloc (.cells (recC 3 g (.slice ad n cap)).toArray 38 (0, 0))).alloc (.cells zR.toArray 38 (0, 0)))) := Lib.hid (((Mod.refl _ _).alloc _).alloc _)
  have HH : Hid (RdA ((w.alloc (.cells (recC 3 g (.slice ad n cap)).toArray 38 (0, 0))).alloc (.cells zR.toArray 38 (0, 0))) (.slice ad n cap) l) := Lib.hid (h.keep0 HM.out)
  have HS : Hid (∀ k g v, (Tryz.prog.info? 38).map (·.size) = some (recC k g v).length) := Lib.hid fun k g v => recC_sz k g v
  have HF2 : Hid (∀ k g v, 0 + (recC k g v).length ≤ (zR : List Value).length) := Lib.hid fun k g v => by rw [recC_len]; decide
  have hb := (Blk.new w 38 (recC 3 g (.slice ad n cap))).alloc (.cells zR.toArray 38 (0, 0))
  have c0 := hb.cell (j := 0) rfl
  have HB := Lib.hid hb
  have HR : Hid (Blk ((w.alloc (.cells (recC 3 g (.slice ad n cap)).toArray 38 (0, 0))).alloc (.cells zR.toArray 38 (0, 0))) (w.heap.size + 1) 38 zR) := Lib.hid (by
    have := Blk.new (w.alloc (.cells (recC 3 g (.slice ad n cap)).toArray 38 (0, 0))) 38 zR
    rwa [show (w.alloc (.cells (recC 3 g (.slice ad n cap)).toArray 38 (0, 0))).heap.size = w.heap.size + 1 by simp] at this)
  clear h hb
  go_enter Tryz.func43, Tryz.ntmps43
  go_wp2_with (first | (go_at_call 87; refine (last_s _ _).mono ?_; rintro e w1 ⟨rfl, rfl⟩; unfold lastV) | (refine wpList_load_blk rfl _ _ rfl w.heap.size 0 rfl 38 _ (recC 3 g (.slice ad n cap)) _ HB.out (List.take_of_length_le (Nat.le_refl _)) Tryz.underlying38 rfl (HS.out _ _ _) ?_) | (go_at_call 88; refine (cown_s 3 g HH.out hl).mono ?_; rintro e W1 ⟨b1, m1, d1, rfl, hr1, hm1⟩; have HR1 := Lib.hid hr1; have HM1 : Hid (Mod (fun _ => False) w W1) := Lib.hid (HM.out.trans hm1 fun _ f => f.elim); have HQ1 := Lib.hid (HR.out.keep hm1 fun f => f); clear hr1 hm1) | (refine wpList_store_blk rfl _ _ _ rfl (w.heap.size + 1) 0 38 zR (recC 3 g (.slice b1 m1 d1)) rfl rfl HQ1.out (HF2.out _ _ _) (HS.out _ _ _) (recC_one _ _ _ rfl) ?_; intro W3 HB4 HX3))
  refine bodyPost_ret (results_blk_tmp rfl _ (w.heap.size + 1) 38 (recC 3 g (.slice b1 m1 d1)) rfl rfl (splice_all HB4.out (by rw [recC_len]; rfl)) Tryz.underlying38 rfl (HS.out _ _ _)) rfl ?_
  exact ⟨g, b1, m1, d1, rfl, HR1.out.keepT HX3.out (HQ1.out.notA (by decide)), HM1.out.trans HX3.out fun q hq => .inr (by omega)⟩
theorem Cut_s {ad : Option Addr} {n cap : Nat} {l : List Ad} {w : World} (v6 : Bool) (mode k : Int) (hm : mode = 1 ∨ mode = 2 ∨ mode = 3) (g : Ad) (h : RdA w (.slice ad n cap) l) (hl : l.length ≤ 2000) :
    Calls Tryz.prog 43 #[.bool v6, .int .i64 mode, .agg (recC k g (.slice ad n cap)).toArray] w (RetC w (cutG v6 mode k l)) := by
  unfold cutG lastV
  cases v6 with
  | true =>
    rcases hm with rfl | rfl | rfl
    · rw [if_neg (by decide)]
      by_cases h6 : k = 6
      · subst h6; rw [if_pos (.inl rfl)]; exact cut_t1_6 g h hl
      · by_cases h3 : k = 3
        · subst h3; rw [if_neg (by simp), if_neg (by decide)]; exact cut_t1_3 0 g h hl
        · by_cases h4 : k = 4
          · subst h4; rw [if_neg (by simp), if_pos rfl]; exact cut_t1_4 g h hl
          · rw [if_neg (by simp [h6]), if_neg h4]; exact cut_t1_n k g h hl h6 h3 h4
    · rw [if_pos (by decide)]; exact cut_t2 k g h hl
    · rw [if_pos (by decide)]; exact cut_t3 k g h hl
  | false =>
    rcases hm with rfl | rfl | rfl
    · rw [if_neg (by decide)]
      by_cases h6 : k = 6
      · subst h6; rw [if_pos (.inl rfl)]; exact cut_f1_6 g h hl
      · by_cases h3 : k = 3
        · subst h3; rw [if_pos (.inr ⟨rfl, rfl, rfl⟩)]; exact cut_f1_3 g h hl
        · by_cases h4 : k = 4
          · subst h4; rw [if_neg (by simp), if_pos rfl]; exact cut_f1_4 g h hl
          · rw [if_neg (by simp [h6, h3]), if_neg h4]; exact cut_f1_n k g h hl h6 h3 h4
    · rw [if_neg (by decide)]
      by_cases h6 : k = 6
      · subst h6; rw [if_pos (.inl rfl)]; exact cut_f2_6 g h hl
      · by_cases h3 : k = 3
        · subst h3; rw [if_neg (by simp), if_neg (by decide)]; exact cut_f2_3 0 g h hl
        · by_cases h4 : k = 4
          · subst h4; rw [if_neg (by simp), if_pos rfl]; exact cut_f2_4 g h hl
          · rw [if_neg (by simp [h6]), if_neg h4]; exact cut_f2_n k g h hl h6 h3 h4
    · rw [if_pos (by decide)]; exact cut_f3 k g h hl
structure Spt (l : List Ad) (a : Ad) (lo hi : Nat) : Prop where
  lh : lo ≤ hi
  hn : hi ≤ l.length
  low : ∀ t x, l[t]? = some x → t < lo → x.rk < a.rk
  high : ∀ t x, l[t]? = some x → hi ≤ t → a.rk ≤ x.rk
theorem asc_at {l : List Ad} (h : Asc l) {s t : Nat} {x y : Ad} (hx : l[s]? = some x) (hy : l[t]? = some y) (hst : s < t) : x.rk < y.rk := by
  obtain ⟨h1, rfl⟩ := List.getElem?_eq_some_iff.1 hx
  obtain ⟨h2, rfl⟩ := List.getElem?_eq_some_iff.1 hy
  exact List.pairwise_iff_getElem.1 h s t h1 h2 hst
theorem Spt.up {l : List Ad} {a : Ad} {lo hi m : Nat} (h : Spt l a lo hi) (hs : Asc l) {y : Ad} (hy : l[m]? = some y) (hm : m < hi) (hlm : lo ≤ m) (hc : y.rk < a.rk) : Spt l a (m + 1) hi :=
  ⟨by omega, h.hn, fun t x hx ht => by
    rcases Nat.lt_succ_iff_lt_or_eq.1 ht with h1 | rfl
    · have := asc_at hs hx hy h1; omega
    · rw [hy] at hx; cases hx; exact hc, h.high⟩
theorem Spt.down {l : List Ad} {a : Ad} {lo hi m : Nat} (h : Spt l a lo hi) (hs : Asc l) {y : Ad} (hy : l[m]? = some y) (hm : m < hi) (hlm : lo ≤ m) (hc : a.rk ≤ y.rk) : Spt l a lo m :=
  ⟨hlm, by have := h.hn; omega, h.low, fun t x hx ht => by
    rcases Nat.lt_or_ge m t with h1 | h1
    · have := asc_at hs hy hx h1; omega
    · obtain rfl : m = t := by omega
      rw [hy] at hx; cases hx; exact hc⟩
theorem Spt.has {l : List Ad} {a : Ad} {i : Nat} (h : Spt l a i i) (hs : Asc l) : (∃ x, l[i]? = some x ∧ x = a) ↔ a ∈ l := by
  constructor
  · rintro ⟨x, hx, rfl⟩; exact List.mem_of_getElem? hx
  · intro ha
    obtain ⟨t, ht, e⟩ := List.getElem_of_mem ha
    have hx : l[t]? = some a := by rw [List.getElem?_eq_getElem ht, e]
    rcases Nat.lt_trichotomy t i with h1 | h1 | h1
    · have := h.low t a hx h1; omega
    · subst h1; exact ⟨a, hx, rfl⟩
    · obtain ⟨y, hy⟩ : ∃ y, l[i]? = some y := ⟨_, List.getElem?_eq_getElem (by omega)⟩
      have h2 := h.high i y hy (Nat.le_refl _)
      have h3 := asc_at hs hy hx h1
      omega
theorem exec_shr1 {ev : Operand → Value} {op : Oper} {x : Operand} {t q : TypeId} {a : Int} (ho : op.op = .binOp .shr t x (.const (.int .u64 1)) q) (hx : ev x = .int .u64 a) (hc : ev (.const (.int .u64 1)) = .int .u64 1) (w : World) :
    (execOp ev op).run Tryz.prog w = .ok (.value (.int .u64 (a / 2))) w := by
  simp [execOp, ho, hx, hc, go_sem]
theorem exec_conv1 {ev : Operand → Value} {op : Oper} {x : Operand} {m : Nat} (ho : op.op = .convert 173 3 x) (hx : ev x = .int .u64 (m : Int)) (hm : m ≤ 5000) (w : World) :
    (execOp ev op).run Tryz.prog w = .ok (.value (.int .i64 (m : Int))) w := by
  have h1 : IntKind.i64.wrap (m : Int) = (m : Int) := IntWalk.i64_in _ (by omega)
  simp [execOp, ho, hx, go_sem, Tryz.underlying173, Tryz.underlying3, h1]
set_option maxRecDepth 100000 in
set_option maxHeartbeats 2000000 in
theorem bs_any {v : Value} {l : List Ad} {a : Ad} {w : World} (h : RdA w v l) (hs : Asc l) (hn : l.length ≤ 5000) :
    Calls Tryz.prog 132 #[v, .agg a.c.toArray, .func (.func 81) #[] #[]] w fun e w' => ∃ (i : Nat) (is : Bool), Spt l a i i ∧ e = .returned (.tuple #[.int .i64 (i : Int), .bool is]) ∧ (is = true ↔ ∃ x, l[i]? = some x ∧ x.rk = a.rk) ∧ Mod (fun _ => False) w w' := by
  obtain ⟨n, hnl⟩ : ∃ n, n = l.length := ⟨_, rfl⟩
  have HH := Lib.hid h
  obtain ⟨ad, cap, rfl, hnc, hcm, k1⟩ := h
  unfold maxLen at hcm
  rw [← hnl] at hnc hn HH ⊢
  have HN := Lib.hid hnl
  have HS := Lib.hid hs
  have HAS := Lib.hid a.c_sz
  have HT := Lib.hid (Blk.new w 36 a.c)
  have HM0 : Hid (Mod (fun _ => False) w (w.alloc (.cells a.c.toArray 36 (0, 0)))) := Lib.hid ((Mod.refl _ _).alloc _)
  have HS0 : Hid (Spt l a 0 n) := Lib.hid ⟨Nat.zero_le _, by omega, fun t x _ h => by omega, fun t x hx ht => by have := (List.getElem?_eq_some_iff.1 hx).1; omega⟩
  clear k1 hnl hs
  go_enter Tryz.func132, Tryz.ntmps132
  go_wp2_with fail
  go_loopw [9, 10] (fun iv jv wr => ∃ lo hi : Nat, iv = .int .i64 (lo : Int) ∧ jv = .int .i64 (hi : Int) ∧ lo ≤ hi ∧ hi ≤ n ∧ Spt l a lo hi ∧ Mod (fun _ => False) w wr ∧ Blk wr w.heap.size 36 a.c) (fun iv jv _ => (intOf jv).toNat - (intOf iv).toNat)
  case atStart => exact ⟨0, n, rfl, rfl, Nat.zero_le _, Nat.le_refl _, HS0.out, HM0.out, HT.out⟩
  case round =>
    clear HS0 HM0 HT
    obtain ⟨lo, hi, rfl, rfl, hlh, hhn, hsp, hm, ht⟩ := hrel
    have HSP := Lib.hid hsp
    have HM := Lib.hid hm
    have HT := Lib.hid ht
    clear hsp hm ht
    by_cases hlt : lo < hi
    · obtain ⟨m, hm⟩ : ∃ m, m = (lo + hi) / 2 := ⟨_, rfl⟩
      have hml : lo ≤ m ∧ m < hi := by omega
      have hmn : m < n := by omega
      obtain ⟨y, hy⟩ : ∃ y, l[m]? = some y := ⟨_, List.getElem?_eq_getElem (by rw [← HN.out]; omega)⟩
      obtain ⟨g0, o0, cap2, e, k1, k2, hc⟩ := HH.out.at (j := m) (by rw [← HN.out]; omega)
      injection e with e ea eb
      subst e
      have HRA := Lib.hid (keepRange HM.out (hc m y hy))
      have HYG := Lib.hid hy
      have HYS := Lib.hid y.c_sz
      clear ea eb k1 k2 hc hy
      have em : ((lo : Int) + (hi : Int)) / 2 = (m : Int) := by omega
      have hS : wr.drew.rangeAt g0 (o0 + m * 17) y.c ∧ Blk wr.drew w.heap.size 36 a.c := ⟨HRA.out, HT.out⟩
      have EM := Lib.hid em
      clear hm em
      go_wp2_with (first | (refine wpList_val rfl (.int .u64 (m : Int)) (by rw [← EM.out]; exact exec_shr1 rfl rfl rfl _) ?_; try simp only [nA, nB, nC, Act.put, nD, nE, nF]) | (refine wpList_val rfl (.int .i64 (m : Int)) (exec_conv1 (m := m) rfl rfl (by omega) _) ?_; try simp only [nA, nB, nC, Act.put, nD, nE, nF]))
      refine wp_region_plan [6] [(0, 0), (1, 0), (2, 0), (3, 0), (4, 1), (5, 1), (6, 3), (7, 0)] (fun w' : World => w'.rangeAt g0 (o0 + m * 17) y.c ∧ Blk w' w.heap.size 36 a.c) (by kernel_rfl) (by kernel_rfl) (fun d v c a w h => by first | (cases d <;> exact h) | exact HP d v c a w h) ?_
      repeat ((first | refine plan_skip rfl rfl ?_ | refine plan_pass2 rfl rfl ?_ | refine plan_pass3 rfl rfl ?_ | (refine plan_take (v := ?_) rfl rfl ?_ ?_; rotate_left; focus (intro w0; go_simp; try with_reducible rfl))); simp only [nA, nB, nC, Act.put, nD, nE, nF])
      (refine plan_held (v := .agg y.c.toArray) rfl rfl hS (fun w0 h0 => exec_load_mid _ _ rfl g0 (o0 + m * 17) rfl y.c _ w0 h0.1 Tryz.underlying36 rfl HYS.out) ?_; try simp only [nA, nB, nC, Act.put, nD, nE, nF])
      (refine plan_held (v := .agg a.c.toArray) rfl rfl hS (fun w0 h0 => exec_load_blk _ _ rfl w.heap.size 0 rfl 36 a.c a.c _ w0 h0.2 (List.take_of_length_le (Nat.le_refl _)) Tryz.underlying36 rfl HAS.out) ?_; try simp only [nA, nB, nC, Act.put, nD, nE, nF])
      (refine plan_end rfl rfl rfl fun K hK => ?_; (try simp only [nA, nB, nC]))
      go_simp
      refine (Cmp_ad y a _).mono ?_; rintro e W1 ⟨rfl, hm1⟩
      have hm1' : Mod (fun _ => False) wr W1 := ((Mod.refl _ wr).drew).trans hm1 fun _ f => f.elim
      have HM1 := Lib.hid (HM.out.trans hm1' fun _ f => f.elim)
      have HT1 := Lib.hid (HT.out.keep hm1' fun f => f)
      refine hK _ _ ?_
      clear hK K hm1 hm1' hS HM HT
      obtain ⟨c, hc⟩ : ∃ c, c = y.cmp a := ⟨_, rfl⟩
      rw [← hc]
      have HC := Lib.hid hc
      clear hc
      by_cases h3 : c < 0
      · have HP := Lib.hid (HSP.out.up HS.out HYG.out hml.2 hml.1 ((Ad.cmp_lt y a).1 (by rw [← HC.out]; exact h3)))
        try simp only [nA, nB, nC, Act.put, nD, nE, nF]
        repeat ((first | refine plan_skip rfl rfl ?_ | refine plan_pass2 rfl rfl ?_ | refine plan_pass3 rfl rfl ?_ | (refine plan_take (v := ?_) rfl rfl ?_ ?_; rotate_left; focus (intro w0; go_simp; try with_reducible rfl))); simp only [nA, nB, nC, Act.put, nD, nE, nF])
        refine plan_nil ?_
        go_wp2
        go_roundw
        case rel => exact ⟨m + 1, hi, by go_num, rfl, by omega, hhn, HP.out, HM1.out, HT1.out⟩
        case measure => simp [intOf]; omega
      · have HP := Lib.hid (HSP.out.down HS.out HYG.out hml.2 hml.1 (by have := (Ad.cmp_lt y a).2; rw [← HC.out] at this; omega))
        try simp only [nA, nB, nC, Act.put, nD, nE, nF]
        repeat ((first | refine plan_skip rfl rfl ?_ | refine plan_pass2 rfl rfl ?_ | refine plan_pass3 rfl rfl ?_ | (refine plan_take (v := ?_) rfl rfl ?_ ?_; rotate_left; focus (intro w0; go_simp; try with_reducible rfl))); simp only [nA, nB, nC, Act.put, nD, nE, nF])
        refine plan_nil ?_
        go_wp2
        go_roundw
        case rel => exact ⟨lo, m, rfl, rfl, by omega, by omega, HP.out, HM1.out, HT1.out⟩
        case measure => simp [intOf]; omega
    · obtain rfl : lo = hi := by omega
      by_cases hn2 : lo < n
      · obtain ⟨y, hy⟩ : ∃ y, l[lo]? = some y := ⟨_, List.getElem?_eq_getElem (by rw [← HN.out]; omega)⟩
        obtain ⟨g0, o0, cap2, e, k1, k2, hc⟩ := HH.out.at (j := lo) (by rw [← HN.out]; omega)
        injection e with e ea eb
        subst e
        have HRA := Lib.hid (keepRange HM.out (hc lo y hy))
        have HYG := Lib.hid hy
        have HYS := Lib.hid y.c_sz
        clear ea eb k1 k2 hc hy
        have hd : decide ((lo : Int) < (n : Int)) = true := decide_eq_true (by omega)
        have hS : wr.drew.rangeAt g0 (o0 + lo * 17) y.c ∧ Blk wr.drew w.heap.size 36 a.c := ⟨HRA.out, HT.out⟩
        go_wp2_with fail
        refine wp_region_plan [11] [(0, 0), (1, 0), (2, 0), (3, 0), (4, 0), (5, 0), (6, 0), (7, 0), (8, 0), (9, 1), (10, 1), (11, 3), (12, 0), (13, 0), (14, 0), (15, 0)] (fun w' : World => w'.rangeAt g0 (o0 + lo * 17) y.c ∧ Blk w' w.heap.size 36 a.c) (by kernel_rfl) (by kernel_rfl) (fun d v c a w h => by first | (cases d <;> exact h) | exact HP d v c a w h) ?_
        repeat ((first | refine plan_skip rfl rfl ?_ | refine plan_pass2 rfl rfl ?_ | refine plan_pass3 rfl rfl ?_ | (refine plan_take (v := ?_) rfl rfl ?_ ?_; rotate_left; focus (intro w0; go_simp; try with_reducible rfl))); simp only [nA, nB, nC, Act.put, nD, nE, nF])
        (refine plan_held (v := .agg y.c.toArray) rfl rfl hS (fun w0 h0 => exec_load_mid _ _ rfl g0 (o0 + lo * 17) rfl y.c _ w0 h0.1 Tryz.underlying36 rfl HYS.out) ?_; try simp only [nA, nB, nC, Act.put, nD, nE, nF])
        (refine plan_held (v := .agg a.c.toArray) rfl rfl hS (fun w0 h0 => exec_load_blk _ _ rfl w.heap.size 0 rfl 36 a.c a.c _ w0 h0.2 (List.take_of_length_le (Nat.le_refl _)) Tryz.underlying36 rfl HAS.out) ?_; try simp only [nA, nB, nC, Act.put, nD, nE, nF])
        (refine plan_end rfl rfl rfl fun K hK => ?_; (try simp only [nA, nB, nC]))
        go_simp
        refine (Cmp_ad y a _).mono ?_; rintro e W1 ⟨rfl, hm1⟩
        have hm1' : Mod (fun _ => False) wr W1 := ((Mod.refl _ wr).drew).trans hm1 fun _ f => f.elim
        have HM1 := Lib.hid (HM.out.trans hm1' fun _ f => f.elim)
        refine hK _ _ ?_
        clear hK K hm1 hS HM HT
        try simp only [nA, nB, nC, Act.put, nD, nE, nF]
        repeat ((first | refine plan_skip rfl rfl ?_ | refine plan_pass2 rfl rfl ?_ | refine plan_pass3 rfl rfl ?_ | (refine plan_take (v := ?_) rfl rfl ?_ ?_; rotate_left; focus (intro w0; go_simp; try with_reducible rfl))); simp only [nA, nB, nC, Act.put, nD, nE, nF])
        refine plan_nil ?_
        go_wp2
        go_ret2
        refine ⟨lo, _, HSP.out, rfl, ?_, HM1.out⟩
        rw [HYG.out]
        simp [← Ad.cmp_eq]
      · have hd : decide ((lo : Int) < (n : Int)) = false := decide_eq_false (by omega)
        have HF : Hid (l[lo]? = none) := Lib.hid (List.getElem?_eq_none (by rw [← HN.out]; omega))
        go_wp2_with fail
        refine wp_region_plan [11] [(0, 0), (1, 0), (2, 0), (3, 0), (4, 0), (5, 0), (6, 0), (7, 0), (8, 0), (9, 1), (10, 1), (11, 3), (12, 0), (13, 0), (14, 0), (15, 0)] (fun _ : World => True) (by kernel_rfl) (by kernel_rfl) (fun d v c a w h => by first | (cases d <;> exact h) | exact HP d v c a w h) ?_
        repeat ((first | refine plan_skip rfl rfl ?_ | refine plan_pass2 rfl rfl ?_ | refine plan_pass3 rfl rfl ?_ | (refine plan_take (v := ?_) rfl rfl ?_ ?_; rotate_left; focus (intro w0; go_simp; try with_reducible rfl)) | (refine plan_held (v := ?_) rfl rfl trivial ?_ ?_; rotate_left; focus (intro w0 hSw; (try dsimp only at hSw); go_split_ands; go_simp; try with_reducible rfl)) | refine plan_skip1 rfl rfl trivial ?_); simp only [nA, nB, nC, Act.put, nD, nE, nF])
        refine plan_nil ?_
        go_wp2
        go_ret2
        exact ⟨lo, false, HSP.out, rfl, by rw [HF.out]; simp, HM.out.drew⟩
set_option maxRecDepth 100000 in
set_option maxHeartbeats 2000000 in
theorem Has_any {v : Value} {l : List Ad} (a : Ad) {w : World} (h : RdA w v l) (hs : Asc l) (hn : l.length ≤ 5000) :
    Calls Tryz.prog 96 #[v, .agg a.c.toArray] w fun e w' => e = .returned (.bool (decide (a ∈ l))) ∧ Mod (fun _ => False) w w' := by
  have HM0 : Hid (Mod (fun _ => False) w (w.alloc (.cells a.c.toArray 36 (0, 0)))) := Lib.hid ((Mod.refl _ _).alloc _)
  have HB := Lib.hid (bs_any (a := a) (h.keep0 HM0.out) hs hn)
  have HT := Lib.hid (Blk.new w 36 a.c)
  have HAS := Lib.hid a.c_sz
  have HH := Lib.hid h
  have HS := Lib.hid hs
  obtain ⟨n, hnl⟩ : ∃ n, n = l.length := ⟨_, rfl⟩
  obtain ⟨ad, cap, rfl, hnc, hcm, k1⟩ := h
  unfold maxLen at hcm
  rw [← hnl] at hnc hn HH HB ⊢
  have HN := Lib.hid hnl
  clear k1 hnl hs
  go_enter Tryz.func96, Tryz.ntmps96
  go_wp2_with (refine wpList_load_blk rfl _ _ rfl w.heap.size 0 rfl 36 a.c a.c _ HT.out (List.take_of_length_le (Nat.le_refl _)) Tryz.underlying36 rfl HAS.out ?_)
  refine HB.out.mono ?_
  rintro e W1 ⟨i, is, hsp, rfl, his, hm1⟩
  have HSP := Lib.hid hsp
  have HIS := Lib.hid his
  have HM1 := Lib.hid (HM0.out.trans hm1 fun _ f => f.elim)
  have HT1 := Lib.hid (HT.out.keep hm1 fun f => f)
  clear hsp his hm1 HB HM0 HT
  cases is with
  | true =>
    obtain ⟨y, hy, hya⟩ := HIS.out.1 rfl
    have hin : i < n := by have := (List.getElem?_eq_some_iff.1 hy).1; rw [HN.out]; exact this
    obtain ⟨g0, o0, cap2, e, k1, k2, hc⟩ := HH.out.at (j := i) (by rw [← HN.out]; exact hin)
    injection e with e ea eb
    subst e
    have HRA := Lib.hid (keepRange HM1.out (hc i y hy))
    have HYS := Lib.hid y.c_sz
    have HE : Hid (decide (y.v = a.v ∧ y.b = a.b) = decide (a ∈ l)) := Lib.hid (by
      have := HSP.out.has HS.out
      by_cases hm : a ∈ l
      · obtain ⟨x, hx, e⟩ := this.2 hm
        rw [hy] at hx
        cases hx
        subst e
        simp [hm]
      · have hne : ¬ (y.v = a.v ∧ y.b = a.b) := fun e => hm (this.1 ⟨y, hy, Ad.ext' e.1 e.2⟩)
        rw [decide_eq_false hm, decide_eq_false hne])
    have HYL := Lib.hid y.ok.1
    have HAL := Lib.hid a.ok.1
    clear ea eb k1 k2 hc hy hya
    have hS : W1.drew.rangeAt g0 (o0 + i * 17) y.c ∧ Blk W1.drew w.heap.size 36 a.c := ⟨HRA.out, HT1.out⟩
    go_wp2_with fail
    refine wp_region_plan [] [(0, 0), (1, 0), (2, 0), (3, 0), (4, 0), (5, 1), (6, 1), (7, 0), (8, 0), (9, 0)] (fun w' : World => w'.rangeAt g0 (o0 + i * 17) y.c ∧ Blk w' w.heap.size 36 a.c) (by kernel_rfl) (by kernel_rfl) (fun d v c a w h => by first | (cases d <;> exact h) | exact HP d v c a w h) ?_
    repeat ((first | refine plan_skip rfl rfl ?_ | refine plan_pass2 rfl rfl ?_ | refine plan_pass3 rfl rfl ?_ | (refine plan_take (v := ?_) rfl rfl ?_ ?_; rotate_left; focus (intro w0; go_simp; try with_reducible rfl))); simp only [nA, nB, nC, Act.put, nD, nE, nF])
    (refine plan_held (v := .agg y.c.toArray) rfl rfl hS (fun w0 h0 => exec_load_mid _ _ rfl g0 (o0 + i * 17) rfl y.c _ w0 h0.1 Tryz.underlying36 rfl HYS.out) ?_; try simp only [nA, nB, nC, Act.put, nD, nE, nF])
    (refine plan_held (v := .agg a.c.toArray) rfl rfl hS (fun w0 h0 => exec_load_blk _ _ rfl w.heap.size 0 rfl 36 a.c a.c _ w0 h0.2 (List.take_of_length_le (Nat.le_refl _)) Tryz.underlying36 rfl HAS.out) ?_; try simp only [nA, nB, nC, Act.put, nD, nE, nF])
    refine plan_take (v := .bool (decide (y.v = a.v ∧ y.b = a.b))) rfl rfl (fun w0 => exec_eq_adr rfl y.v a.v y.b a.b HYL.out HAL.out rfl rfl w0) ?_
    try simp only [nA, nB, nC, Act.put, nD, nE, nF]
    rw [HE.out]
    repeat ((first | refine plan_skip rfl rfl ?_ | refine plan_pass2 rfl rfl ?_ | refine plan_pass3 rfl rfl ?_ | (refine plan_take (v := ?_) rfl rfl ?_ ?_; rotate_left; focus (intro w0; go_simp; try with_reducible rfl))); simp only [nA, nB, nC, Act.put, nD, nE, nF])
    refine plan_nil ?_
    go_wp2
    go_ret
    exact ⟨rfl, HM1.out.drew⟩
  | false =>
    have HE : Hid (decide (a ∈ l) = false) := Lib.hid (decide_eq_false fun hm => by
      obtain ⟨x, hx, e⟩ := (HSP.out.has HS.out).2 hm
      have := HIS.out.2 ⟨x, hx, by rw [e]⟩
      cases this)
    go_wp2_with fail
    refine wp_region_plan [] [(0, 0), (1, 0), (2, 0), (3, 0), (4, 0), (5, 1), (6, 1), (7, 0), (8, 0), (9, 0)] (fun _ : World => True) (by kernel_rfl) (by kernel_rfl) (fun d v c a w h => by first | (cases d <;> exact h) | exact HP d v c a w h) ?_
    repeat ((first | refine plan_skip rfl rfl ?_ | refine plan_pass2 rfl rfl ?_ | refine plan_pass3 rfl rfl ?_ | (refine plan_take (v := ?_) rfl rfl ?_ ?_; rotate_left; focus (intro w0; go_simp; try with_reducible rfl)) | (refine plan_held (v := ?_) rfl rfl trivial ?_ ?_; rotate_left; focus (intro w0 hSw; (try dsimp only at hSw); go_split_ands; go_simp; try with_reducible rfl)) | refine plan_skip1 rfl rfl trivial ?_); simp only [nA, nB, nC, Act.put, nD, nE, nF])
    refine plan_nil ?_
    go_wp2
    go_ret
    refine ⟨?_, HM1.out.drew⟩
    rw [HE.out]
    rfl
structure Gs where
  v6 : Bool
  now : Int
  ex : Bool
  on : List Ad
  off : List Ad
  till : Int
  T : Ad → Option Int
  one : Int
  two : Int
def gC (G : Gs) (v1 v2 : Value) (c : Nat) : List Value := [.bool G.v6, .int .i64 G.now, .bool G.ex, v1, v2, .int .i64 G.till, .pointer (some ⟨c, 0, none⟩), .int .i64 G.one, .int .i64 G.two]
theorem iSz : (Tryz.prog.info? 3).map (·.size) = some 1 := by kernel_rfl
theorem Blk.neT {w : World} {g g' : Nat} {t t' : TypeId} {cs cs' : List Value} (h : Blk w g t cs) (h' : Blk w g' t' cs') (ht : t ≠ t') : g ≠ g' := fun e => by
  subst e
  unfold Blk at h h'
  rw [h] at h'
  injection h' with h'
  injection h' with _ h2
  exact ht h2
structure GIn (w : World) (p c b : Nat) (G : Gs) (a1 : Option Addr) (n1 k1 : Nat) (a2 : Option Addr) (n2 k2 : Nat) (L : List (Ad × Int)) : Prop where
  blk : Blk w p 90 (gC G (.slice a1 n1 k1) (.slice a2 n2 k2) c)
  on : RT w (.slice a1 n1 k1) G.on
  off : RT w (.slice a2 n2 k2) G.off
  clk : ClkAt w c b G.T L
def GAt (w : World) (p c b : Nat) (G : Gs) : Prop := ∃ a1 n1 k1 a2 n2 k2 L, GIn w p c b G a1 n1 k1 a2 n2 k2 L
section
variable {w w' : World} {p c b : Nat} {G : Gs} {a1 : Option Addr} {n1 k1 : Nat} {a2 : Option Addr} {n2 k2 : Nat} {L : List (Ad × Int)}
theorem GIn.ne (h : GIn w p c b G a1 n1 k1 a2 n2 k2 L) : p ≠ c ∧ p ≠ b ∧ b ≠ c := ⟨h.blk.neT h.clk.blk (by decide), fun e => h.clk.mp.ne h.blk e.symm, h.clk.ne⟩
theorem GIn.keep0 (h : GIn w p c b G a1 n1 k1 a2 n2 k2 L) (hm : Mod (fun _ => False) w w') : GIn w' p c b G a1 n1 k1 a2 n2 k2 L := ⟨h.blk.keep hm fun f => f, h.on.keep0 hm, h.off.keep0 hm, h.clk.keep0 hm⟩
theorem GAt.keep0 (h : GAt w p c b G) (hm : Mod (fun _ => False) w w') : GAt w' p c b G := by
  obtain ⟨_, _, _, _, _, _, _, h⟩ := h
  exact ⟨_, _, _, _, _, _, _, h.keep0 hm⟩
theorem GAt.far {q d : Nat} (h : GAt w p c b G) (hm : Mod (fun k => k = q ∨ k = d) w w') (h1 : p ≠ q) (h2 : b ≠ d) {cs : List Value} (hq : Blk w q 90 cs) {es : Array MapEntry} {ck : Nat} (hd : w.heap[d]? = some (.map es ck)) : GAt w' p c b G := by
  obtain ⟨_, _, _, _, _, _, _, h⟩ := h
  have hN : NotA w (fun k => k = q ∨ k = d) := fun k hk cur z e => by
    rcases hk with rfl | rfl
    · unfold Blk at hq; rw [hq] at e; injection e with e; injection e with _ e2; exact absurd e2 (by decide)
    · rw [hd] at e; cases e
  have hpd : p ≠ d := fun e => by subst e; have := h.blk; unfold Blk at this; rw [this] at hd; cases hd
  have hcq : c ≠ q := h.clk.blk.neT hq (by decide)
  have hcd : c ≠ d := fun e => by subst e; have := h.clk.blk; unfold Blk at this; rw [this] at hd; cases hd
  have hbq : b ≠ q := h.clk.mp.ne hq
  exact ⟨_, _, _, _, _, _, _, h.blk.keep hm (fun e => e.elim h1 hpd), h.on.keepT hm hN, h.off.keepT hm hN, h.clk.keep hm (fun e => e.elim hcq hcd) (fun e => e.elim hbq h2)⟩
end
def G0 (v6 : Bool) : Gs := ⟨v6, 0, false, [], [], 0, fun _ => none, 0, 0⟩
set_option maxRecDepth 100000 in
theorem gNew (v6 : Bool) (w : World) : Calls Tryz.prog 8 #[.bool v6] w fun e w' => ∃ p c b, e = .returned (.pointer (some ⟨p, 0, none⟩)) ∧ GAt w' p c b (G0 v6) ∧ w.heap.size ≤ p ∧ w.heap.size ≤ b ∧ w.heap.size ≤ c ∧ Mod (fun _ => False) w w' := by
  have HC := Lib.hid (cNew w)
  go_enter Tryz.func8, Tryz.ntmps8
  go_wp2_with (go_at_call 40; refine HC.out.mono ?_; rintro e w1 ⟨c, b, rfl, hc, h1, h2, hm⟩; have HCK := Lib.hid hc; have HM := Lib.hid hm; clear hc hm)
  go_ret
  refine ⟨w1.heap.size, c, b, rfl, ⟨none, 0, 0, none, 0, 0, [], ?_, RowA.nil _ _, RowA.nil _ _, HCK.out.keep0 ((Mod.refl _ _).alloc _)⟩, HM.out.size, h2, h1, HM.out.alloc _⟩
  exact allocNew w1 _
section
variable {w : World} {p c b : Nat} {G : Gs} {a1 : Option Addr} {n1 k1 : Nat} {a2 : Option Addr} {n2 k2 : Nat} {L : List (Ad × Int)} (h : GIn w p c b G a1 n1 k1 a2 n2 k2 L)
include h
set_option maxRecDepth 100000 in
theorem gmode : Calls Tryz.prog 44 #[.pointer (some ⟨p, 0, none⟩)] w fun e w' => e = .returned (.int .i64 (modeV G.v6 G.now G.one G.two)) ∧ Mod (fun _ => False) w w' := by
  have hS : w.drew.cell? ⟨p, 0, none⟩ = some (.bool G.v6) ∧ w.drew.cell? ⟨p, 1, none⟩ = some (.int .i64 G.now) ∧ w.drew.cell? ⟨p, 7, none⟩ = some (.int .i64 G.one) ∧ w.drew.cell? ⟨p, 8, none⟩ = some (.int .i64 G.two) := ⟨h.blk.cell rfl, h.blk.cell rfl, h.blk.cell rfl, h.blk.cell rfl⟩
  clear h
  go_enter Tryz.func44, Tryz.ntmps44
  go_wp2_with fail
  refine wp_region_plan [16] [(0, 0), (1, 0), (2, 0), (3, 1), (4, 0), (5, 0), (6, 0), (7, 1), (8, 0), (9, 0), (10, 0), (11, 1), (12, 0), (13, 0), (14, 0), (15, 1), (16, 3), (17, 0)] (fun w' : World => w'.cell? ⟨p, 0, none⟩ = some (.bool G.v6) ∧ w'.cell? ⟨p, 1, none⟩ = some (.int .i64 G.now) ∧ w'.cell? ⟨p, 7, none⟩ = some (.int .i64 G.one) ∧ w'.cell? ⟨p, 8, none⟩ = some (.int .i64 G.two)) (by kernel_rfl) (by kernel_rfl) (fun d v c a w h => by first | (cases d <;> exact h) | exact HP d v c a w h) ?_
  repeat ((first | refine plan_skip rfl rfl ?_ | refine plan_pass2 rfl rfl ?_ | refine plan_pass3 rfl rfl ?_ | (refine plan_take (v := ?_) rfl rfl ?_ ?_; rotate_left; focus (intro w0; go_simp; try with_reducible rfl)) | (refine plan_held (v := ?_) rfl rfl hS ?_ ?_; rotate_left; focus (intro w0 hSw; (try dsimp only at hSw); go_split_ands; go_simp; try with_reducible rfl)) | refine plan_skip1 rfl rfl hS ?_); simp only [nA, nB, nC, Act.put, nD, nE, nF])
  (refine plan_end rfl rfl rfl fun K hK => ?_; (try simp only [nA, nB, nC]))
  go_simp
  refine (Mode_s _ _ _ _ _).mono ?_
  rintro e W1 ⟨rfl, rfl⟩
  refine hK _ _ ?_
  clear hK K
  try simp only [nA, nB, nC, Act.put, nD, nE, nF]
  repeat ((first | refine plan_skip rfl rfl ?_ | refine plan_pass2 rfl rfl ?_ | refine plan_pass3 rfl rfl ?_ | (refine plan_take (v := ?_) rfl rfl ?_ ?_; rotate_left; focus (intro w0; go_simp; try with_reducible rfl))); simp only [nA, nB, nC, Act.put, nD, nE, nF])
  refine plan_nil ?_
  go_wp2
  go_ret
  exact ⟨rfl, (Mod.refl _ _).drew⟩
def hearsG (G : Gs) (M : Int) (older : Int) : Gs := if older = 1 then { G with one := G.now + M } else if older = 2 ∧ G.v6 = false then { G with two := G.now + M } else G
set_option maxRecDepth 100000 in
set_option maxHeartbeats 1000000 in
theorem ghears (t : Tn) (ht : t.ok) (older : Int) (hnow : 0 ≤ G.now ∧ G.now ≤ 1000000000000) : Calls Tryz.prog 42 #[.pointer (some ⟨p, 0, none⟩), .agg t.c.toArray, .int .i64 older] w fun e w' => e = .returned (.tuple #[]) ∧ GIn w' p c b (hearsG G t.member older) a1 n1 k1 a2 n2 k2 L ∧ Mod (fun k => k = p) w w' := by
  have HH := Lib.hid h
  have hne := h.ne
  have HNE := Lib.hid hne
  have hpl := h.blk.lt
  have HT := Lib.hid ht
  have ew : IntKind.i64.wrap (G.now + t.member) = G.now + t.member := IntWalk.i64_in _ (by have := Tn.member_bd ht; omega)
  have H1 : Hid (GIn (w.alloc (.cells t.c.toArray 32 (0, 0))) p c b G a1 n1 k1 a2 n2 k2 L) := Lib.hid (h.keep0 ((Mod.refl _ _).alloc _))
  have HB : Hid (Blk (w.alloc (.cells t.c.toArray 32 (0, 0))) w.heap.size 32 t.c) := Lib.hid (Blk.new w _ _)
  have HM : Hid (Mod (fun k => k = p) w (w.alloc (.cells t.c.toArray 32 (0, 0)))) := Lib.hid ((Mod.refl _ _).alloc _)
  have q0 : (w.alloc (.cells t.c.toArray 32 (0, 0))).cell? ⟨p, 0, none⟩ = some (.bool G.v6) := H1.out.blk.cell rfl
  have hS : (w.alloc (.cells t.c.toArray 32 (0, 0))).drew.cell? ⟨p, 1, none⟩ = some (.int .i64 G.now) ∧ Blk (w.alloc (.cells t.c.toArray 32 (0, 0))).drew w.heap.size 32 t.c := ⟨H1.out.blk.cell rfl, HB.out⟩
  clear h hne ht
  by_cases h1 : older = 1
  · have HG : Hid (hearsG G t.member older = { G with one := G.now + t.member }) := Lib.hid (if_pos h1)
    subst h1
    go_enter Tryz.func42, Tryz.ntmps42
    go_wp2_with fail
    refine wp_region_plan [10] [(0, 0), (1, 0), (2, 0), (3, 0), (4, 1), (5, 1), (6, 2), (7, 0), (8, 0), (9, 0), (10, 3)] (fun w' : World => w'.cell? ⟨p, 1, none⟩ = some (.int .i64 G.now) ∧ Blk w' w.heap.size 32 t.c) (by kernel_rfl) (by kernel_rfl) (fun d v c a w h => by first | (cases d <;> exact h) | exact HP d v c a w h) ?_
    repeat ((first | refine plan_skip rfl rfl ?_ | refine plan_pass2 rfl rfl ?_ | refine plan_pass3 rfl rfl ?_ | (refine plan_take (v := ?_) rfl rfl ?_ ?_; rotate_left; focus (intro w0; go_simp; try with_reducible rfl)) | (refine plan_held (v := ?_) rfl rfl hS ?_ ?_; rotate_left; focus (intro w0 hSw; (try dsimp only at hSw); go_split_ands; go_simp; try with_reducible rfl)) | refine plan_skip1 rfl rfl hS ?_); simp only [nA, nB, nC, Act.put, nD, nE, nF])
    (refine plan_held (v := .agg t.c.toArray) rfl rfl hS (fun w0 h0 => exec_load_blk _ _ rfl w.heap.size 0 rfl 32 t.c t.c _ w0 h0.2 rfl Tryz.underlying32 rfl tuSz) ?_; try simp only [nA, nB, nC, Act.put, nD, nE, nF])
    (refine plan_do rfl rfl fun K hK => ?_; try simp only [nA, nB, nC])
    go_simp
    refine (Older_s t HT.out _).mono ?_
    rintro e W1 ⟨rfl, hm1⟩
    have HG1 : Hid (GIn W1 p c b G a1 n1 k1 a2 n2 k2 L) := Lib.hid (H1.out.keep0 ((Mod.refl _ _).drew.trans hm1 fun _ f => f.elim))
    have HM1 : Hid (Mod (fun k => k = p) w W1) := Lib.hid (HM.out.drew.trans hm1 fun _ f => f.elim)
    refine hK _ _ ⟨hm1.cell (fun f => f) hS.1, Blk.keep hS.2 hm1 fun f => f⟩ ?_
    clear hK K hm1 hS
    try simp only [nA, nB, nC, Act.put, nD, nE, nF]
    repeat ((first | refine plan_skip rfl rfl ?_ | refine plan_pass2 rfl rfl ?_ | refine plan_pass3 rfl rfl ?_ | (refine plan_take (v := ?_) rfl rfl ?_ ?_; rotate_left; focus (intro w0; go_simp; try with_reducible rfl))); simp only [nA, nB, nC, Act.put, nD, nE, nF])
    (refine plan_end rfl rfl rfl fun K hK => ?_; (try simp only [nA, nB, nC]))
    refine wp_store_blk1 3 _ _ rfl p 7 90 _ (.int .i64 (G.now + t.member)) rfl (by go_simp) HG1.out.blk (by simp [gC]) iSz rfl ?_
    intro W2 HX2 HY2
    refine hK _ _ ?_
    clear hK K
    try simp only [nA, nB, nC, Act.put, nD, nE, nF]
    refine plan_nil ?_
    go_wp2
    go_end0
    refine ⟨rfl, ?_, HM1.out.trans HY2.out fun k hk => .inl hk⟩
    rw [HG.out]
    exact ⟨HX2.out, HG1.out.on.keepT HY2.out (HG1.out.blk.notA (by decide)), HG1.out.off.keepT HY2.out (HG1.out.blk.notA (by decide)), HG1.out.clk.keep HY2.out (fun e => HNE.out.1 e.symm) fun e => HNE.out.2.1 e.symm⟩
  · by_cases h2 : older = 2 ∧ G.v6 = false
    · have HG : Hid (hearsG G t.member older = { G with two := G.now + t.member }) := Lib.hid (by unfold hearsG; rw [if_neg h1, if_pos h2])
      obtain ⟨rfl, hv⟩ := h2
      rw [hv] at q0
      clear h1
      go_enter Tryz.func42, Tryz.ntmps42
      go_wp2_with fail
      refine wp_region_plan [10] [(0, 0), (1, 0), (2, 0), (3, 0), (4, 1), (5, 1), (6, 2), (7, 0), (8, 0), (9, 0), (10, 3)] (fun w' : World => w'.cell? ⟨p, 1, none⟩ = some (.int .i64 G.now) ∧ Blk w' w.heap.size 32 t.c) (by kernel_rfl) (by kernel_rfl) (fun d v c a w h => by first | (cases d <;> exact h) | exact HP d v c a w h) ?_
      repeat ((first | refine plan_skip rfl rfl ?_ | refine plan_pass2 rfl rfl ?_ | refine plan_pass3 rfl rfl ?_ | (refine plan_take (v := ?_) rfl rfl ?_ ?_; rotate_left; focus (intro w0; go_simp; try with_reducible rfl)) | (refine plan_held (v := ?_) rfl rfl hS ?_ ?_; rotate_left; focus (intro w0 hSw; (try dsimp only at hSw); go_split_ands; go_simp; try with_reducible rfl)) | refine plan_skip1 rfl rfl hS ?_); simp only [nA, nB, nC, Act.put, nD, nE, nF])
      (refine plan_held (v := .agg t.c.toArray) rfl rfl hS (fun w0 h0 => exec_load_blk _ _ rfl w.heap.size 0 rfl 32 t.c t.c _ w0 h0.2 rfl Tryz.underlying32 rfl tuSz) ?_; try simp only [nA, nB, nC, Act.put, nD, nE, nF])
      (refine plan_do rfl rfl fun K hK => ?_; try simp only [nA, nB, nC])
      go_simp
      refine (Older_s t HT.out _).mono ?_
      rintro e W1 ⟨rfl, hm1⟩
      have HG1 : Hid (GIn W1 p c b G a1 n1 k1 a2 n2 k2 L) := Lib.hid (H1.out.keep0 ((Mod.refl _ _).drew.trans hm1 fun _ f => f.elim))
      have HM1 : Hid (Mod (fun k => k = p) w W1) := Lib.hid (HM.out.drew.trans hm1 fun _ f => f.elim)
      refine hK _ _ ⟨hm1.cell (fun f => f) hS.1, Blk.keep hS.2 hm1 fun f => f⟩ ?_
      clear hK K hm1 hS
      try simp only [nA, nB, nC, Act.put, nD, nE, nF]
      repeat ((first | refine plan_skip rfl rfl ?_ | refine plan_pass2 rfl rfl ?_ | refine plan_pass3 rfl rfl ?_ | (refine plan_take (v := ?_) rfl rfl ?_ ?_; rotate_left; focus (intro w0; go_simp; try with_reducible rfl))); simp only [nA, nB, nC, Act.put, nD, nE, nF])
      (refine plan_end rfl rfl rfl fun K hK => ?_; (try simp only [nA, nB, nC]))
      refine wp_store_blk1 3 _ _ rfl p 8 90 _ (.int .i64 (G.now + t.member)) rfl (by go_simp) HG1.out.blk (by simp [gC]) iSz rfl ?_
      intro W2 HX2 HY2
      refine hK _ _ ?_
      clear hK K
      try simp only [nA, nB, nC, Act.put, nD, nE, nF]
      refine plan_nil ?_
      go_wp2
      go_end0
      refine ⟨rfl, ?_, HM1.out.trans HY2.out fun k hk => .inl hk⟩
      rw [HG.out]
      exact ⟨HX2.out, HG1.out.on.keepT HY2.out (HG1.out.blk.notA (by decide)), HG1.out.off.keepT HY2.out (HG1.out.blk.notA (by decide)), HG1.out.clk.keep HY2.out (fun e => HNE.out.1 e.symm) fun e => HNE.out.2.1 e.symm⟩
    · have HG : Hid (hearsG G t.member older = G) := Lib.hid (by unfold hearsG; rw [if_neg h1, if_neg h2])
      by_cases h3 : older = 2
      · have hv : G.v6 = true := by cases hv : G.v6 with | true => rfl | false => exact absurd ⟨h3, hv⟩ h2
        rw [hv] at q0
        subst h3
        clear h1 h2 hv
        go_enter Tryz.func42, Tryz.ntmps42
        go_wp2
        go_end0
        exact ⟨rfl, by rw [HG.out]; exact H1.out, HM.out⟩
      · clear h2
        go_enter Tryz.func42, Tryz.ntmps42
        go_wp2
        go_end0
        exact ⟨rfl, by rw [HG.out]; exact H1.out, HM.out⟩
end
end Go.Proofs.YtcccdlmngddalaaGreat
